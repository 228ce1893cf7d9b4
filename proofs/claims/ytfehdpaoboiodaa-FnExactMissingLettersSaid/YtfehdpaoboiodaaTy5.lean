/-
  How a word is set: the plain law (greedy, the longest code first), and the reference's contract.
-/
import Derived.Test.YtfehdpaoboiodaaTy4
import Derived.Test.YtfehdpaoboiodaaOwn
namespace Go.Proofs.Ytfehdpaoboiodaa
open Go.RowKit
set_option linter.unusedVariables false
attribute [local go_sem ↓] Go.wp_at_zero Go.wp_at_succ

def bytes (s : ByteArray) : List UInt8 := s.data.toList
theorem bytes_len (s : ByteArray) : (bytes s).length = s.size := Array.length_toList
theorem bytes_ext (s : ByteArray) (a b : Nat) : bytes (s.extract a b) = ((bytes s).drop a).take (b - a) := by
  have h := ByteArray.extract_mk s.data.toList a b
  have e : (ByteArray.mk s.data.toList.toArray) = s := by cases s; simp
  rw [e] at h
  rw [h]
  simp [bytes]
def fit (c : List UInt8) (x : Srt) : Bool := bytes x.code == c
theorem code_fit (s : ByteArray) : codeB s = fit (bytes s) := by
  funext x
  unfold codeB fit bytes
  rw [ByteArray.toList_eq, ByteArray.toList_eq]
def bestN (xs : List Srt) (r : List UInt8) : Nat → Int
  | 0 => -1
  | n + 1 => if 0 ≤ findI (fit (r.take (n + 1))) xs then findI (fit (r.take (n + 1))) xs else bestN xs r n
def best (xs : List Srt) (r : List UInt8) : Int := bestN xs r (min 3 r.length)
theorem bestN_hit {xs : List Srt} {r : List UInt8} {n : Nat} (h : 0 ≤ findI (fit (r.take (n + 1))) xs) : bestN xs r (n + 1) = findI (fit (r.take (n + 1))) xs := by rw [bestN, if_pos h]
theorem bestN_miss {xs : List Srt} {r : List UInt8} {n : Nat} (h : ¬ 0 ≤ findI (fit (r.take (n + 1))) xs) : bestN xs r (n + 1) = bestN xs r n := by rw [bestN, if_neg h]
theorem bestN_cases (xs : List Srt) (r : List UInt8) : ∀ m, (bestN xs r m = -1 ∧ ∀ n, 1 ≤ n → n ≤ m → findI (fit (r.take n)) xs < 0) ∨ ∃ (n k : Nat) (x : Srt), 1 ≤ n ∧ n ≤ m ∧ bestN xs r m = (k : Int) ∧ xs[k]? = some x ∧ k < xs.length ∧ bytes x.code = r.take n ∧ findI (fit (r.take n)) xs = (k : Int) ∧ ∀ n', n < n' → n' ≤ m → findI (fit (r.take n')) xs < 0
  | 0 => .inl ⟨rfl, fun n h1 h2 => by omega⟩
  | m + 1 => by
    by_cases h : 0 ≤ findI (fit (r.take (m + 1))) xs
    · rw [bestN_hit h]
      rcases find_cases (fit (r.take (m + 1))) xs with h1 | ⟨k, x, h1, hk, hx, hp⟩
      · omega
      · exact .inr ⟨m + 1, k, x, by omega, Nat.le_refl _, h1, hx, hk, by simpa [fit] using hp, h1, fun n' a b => by omega⟩
    · rw [bestN_miss h]
      rcases bestN_cases xs r m with ⟨h1, h2⟩ | ⟨n, k, x, h1, h2, h3, h4, h5, h6, h7, h8⟩
      · exact .inl ⟨h1, fun n a b => by
          by_cases hn : n = m + 1
          · subst hn; omega
          · exact h2 n a (by omega)⟩
      · exact .inr ⟨n, k, x, h1, by omega, h3, h4, h5, h6, h7, fun n' a b => by
          by_cases hn : n' = m + 1
          · subst hn; omega
          · exact h8 n' a (by omega)⟩
theorem best_cases (xs : List Srt) (r : List UInt8) : best xs r = -1 ∨ ∃ (n k : Nat) (x : Srt), 1 ≤ n ∧ n ≤ 3 ∧ n ≤ r.length ∧ best xs r = (k : Int) ∧ xs[k]? = some x ∧ k < xs.length ∧ x.code.size = n := by
  rcases bestN_cases xs r (min 3 r.length) with ⟨h, _⟩ | ⟨n, k, x, h1, h2, h3, h4, h5, h6, _⟩
  · exact .inl h
  · refine .inr ⟨n, k, x, h1, by omega, by omega, h3, h4, h5, ?_⟩
    rw [← bytes_len, h6, List.length_take]
    omega
/-- the sorts with which the rest r is set behind L; t bounds the steps -/
def setGo (xs : List Srt) : Nat → List UInt8 → List Int → Option (List Int)
  | 0, _, _ => none
  | t + 1, r, L => if r = [] then some L else if best xs r < 0 then none else match xs[(best xs r).toNat]? with
    | some x => setGo xs t (r.drop x.code.size) (L ++ [best xs r])
    | none => none
def setV (xs : List Srt) (r : List UInt8) : Option (List Int) := setGo xs (r.length + 1) r []
theorem setGo_end {xs : List Srt} {t : Nat} {r : List UInt8} {L : List Int} (ht : 0 < t) (h : r = []) : setGo xs t r L = some L := by
  obtain ⟨t, rfl⟩ : ∃ u, t = u + 1 := ⟨t - 1, by omega⟩
  rw [setGo, if_pos h]
theorem setGo_fail {xs : List Srt} {t : Nat} {r : List UInt8} {L : List Int} (ht : 0 < t) (h : r ≠ []) (hb : best xs r < 0) : setGo xs t r L = none := by
  obtain ⟨t, rfl⟩ : ∃ u, t = u + 1 := ⟨t - 1, by omega⟩
  rw [setGo, if_neg h, if_pos hb]
theorem setGo_step {xs : List Srt} {t k : Nat} {r : List UInt8} {L : List Int} {x : Srt} (h : r ≠ []) (hb : best xs r = (k : Int)) (hx : xs[k]? = some x) : setGo xs (t + 1) r L = setGo xs t (r.drop x.code.size) (L ++ [(k : Int)]) := by
  rw [setGo, if_neg h, if_neg (by omega), hb]
  simp [hx]
def setL (xs : List Srt) (s : ByteArray) : List Int := (setV xs (bytes s)).getD []
def setB (xs : List Srt) (s : ByteArray) : Bool := (setV xs (bytes s)).isSome
theorem set_some {xs : List Srt} {s : ByteArray} {L : List Int} (h : setV xs (bytes s) = some L) : setL xs s = L ∧ setB xs s = true := by simp [setL, setB, h]
theorem set_none {xs : List Srt} {s : ByteArray} (h : setV xs (bytes s) = none) : setL xs s = [] ∧ setB xs s = false := by simp [setL, setB, h]
theorem setGo_in (xs : List Srt) : ∀ (t : Nat) (r : List UInt8) (L M : List Int), setGo xs t r L = some M → (∀ i ∈ L, 0 ≤ i ∧ i < (xs.length : Int)) → (∀ i ∈ M, 0 ≤ i ∧ i < (xs.length : Int)) ∧ M.length ≤ L.length + r.length
  | 0, r, L, M, h, _ => by simp [setGo] at h
  | t + 1, r, L, M, h, hL => by
    rw [setGo] at h
    split at h
    · cases h
      exact ⟨hL, by omega⟩
    · rename_i hr
      split at h
      · cases h
      · rcases best_cases xs r with hb | ⟨n, k, x, n1, n2, n3, hb, hx, hk, hs⟩
        · omega
        · rw [hb] at h
          simp only [Int.toNat_natCast, hx] at h
          have ih := setGo_in xs t _ _ M h (fun i hi => by
            rcases List.mem_append.1 hi with h' | h'
            · exact hL i h'
            · obtain rfl : i = (k : Int) := by simpa using h'
              omega)
          refine ⟨ih.1, ?_⟩
          have := ih.2
          rw [List.length_append, List.length_drop] at this
          simp at this
          omega
theorem setL_in (xs : List Srt) (s : ByteArray) : (∀ i ∈ setL xs s, 0 ≤ i ∧ i < (xs.length : Int)) ∧ (setL xs s).length ≤ s.size := by
  rcases h : setV xs (bytes s) with _ | M
  · rw [(set_none h).1]; simp
  · rw [(set_some h).1]
    have := setGo_in xs _ _ _ _ h (by simp)
    rw [bytes_len] at this
    simpa using this
theorem drop_ne {s : ByteArray} {k : Nat} (h : k < s.size) : (bytes s).drop k ≠ [] := by
  rw [Ne, List.drop_eq_nil_iff, bytes_len]
  omega
theorem drop_nil {s : ByteArray} {k : Nat} (h : s.size ≤ k) : (bytes s).drop k = [] := by
  rw [List.drop_eq_nil_iff, bytes_len]
  exact h
theorem drop_len (s : ByteArray) (k : Nat) : ((bytes s).drop k).length = s.size - k := by rw [List.length_drop, bytes_len]
set_option maxHeartbeats 2000000 in
theorem tySet_any (A : Option Addr) (n c B : Nat) (xs : List Srt) (s : ByteArray) (w : World) (hr : Rd cSrt 2 w B A n xs) (hB : B ≤ w.heap.size) (hn : n ≤ 1048576) (hs : s.size ≤ 1048576) :
    Calls Try.prog 65 #[.slice A n c, .string s] w (RetS (setL xs s) (setB xs s) w) := by
  have hl := hr.1
  obtain ⟨i0, hi0, hi1, hi2, hi3⟩ := info_parts infoI
  go_enter Try.func65, Try.ntmps65
  go_wp2
  go_loopw [6, 7] (fun u i wr => ∃ (a t : Nat) (L : List Int), a ≤ s.size ∧ i = .int .i64 a ∧ L.length ≤ a ∧ OwnG 3 1 w.heap.size w w.heap.size wr u L.length (L.map (Value.int .i64)) ∧ s.size < a + t ∧ Hid (setGo xs t ((bytes s).drop a) L = setV xs (bytes s))) (fun _ i _ => s.size - (intOf i).toNat)
  case atStart => exact ⟨0, s.size + 1, [], Nat.zero_le _, rfl, by simp, OwnG.nil _ _, by omega, by unfold Hid setV; rw [bytes_len]; rfl⟩
  case round =>
    obtain ⟨a, t, L, ha, rfl, hLa, hown, hat, HG⟩ := hrel
    by_cases hlt : a < s.size
    · obtain ⟨wo, rfl⟩ : ∃ wo : World, wo = wr := ⟨_, rfl⟩
      have hrl := drop_len s a
      obtain ⟨r, hrr⟩ : ∃ r, r = (bytes s).drop a := ⟨_, rfl⟩
      have hne : r ≠ [] := by rw [hrr]; exact drop_ne hlt
      rw [← hrr] at HG hrl
      have HO := Lib.hid hown
      have hbw : Below w.heap.size w wo := hown.to_below (Nat.le_refl _) (Nat.le_refl _)
      have HBW := Lib.hid hbw
      have HNE := Lib.hid hne
      have HRR := Lib.hid hrr
      have HRL := Lib.hid hrl
      have hBs : B ≤ wo.heap.size := by have := hbw.size; omega
      clear hown hbw hne hrr hrl
      go_wp2_with (go_at_call 63; refine (l1Least_any _ _ _).mono ?_; rintro e w' ⟨rfl, rfl⟩)
      go_loopw [8, 9] (fun b m wi => ∃ (j : Nat) (q : Int), j ≤ 3 ∧ a + j ≤ s.size ∧ m = .int .i64 j ∧ b = .int .i64 q ∧ Below wo.heap.size wo wi ∧ Hid ((q = -1 ∧ best xs r = bestN xs r j) ∨ (0 ≤ q ∧ best xs r = q))) (fun _ m _ => (intOf m).toNat)
      case atStart => exact ⟨min 3 (s.size - a), -1, by omega, by omega, by congr 1; omega, rfl, Below.refl _ _, .inl ⟨rfl, by unfold best; rw [HRL.out]⟩⟩
      case round =>
        obtain ⟨j, q, hj3, hja, rfl, rfl, hbi, HQ⟩ := hrel
        have HBI := Lib.hid hbi
        have hBi : B ≤ wr.heap.size := by have := hbi.size; omega
        clear hbi
        by_cases hj : 0 < j
        · by_cases hq : q < 0
          · have hqe : q = -1 ∧ best xs r = bestN xs r j := by
              rcases HQ.out with h | h
              · exact h
              · omega
            obtain ⟨hq1, hq2⟩ := hqe
            have HQ2 := Lib.hid hq2
            obtain rfl := hq1.symm
            have HF := Lib.hid (show findI (codeB (s.extract a (a + j))) xs = findI (fit (r.take j)) xs by rw [code_fit, bytes_ext, ← HRR.out, show a + j - a = j by omega])
            have hfc := find_cases (fit (r.take j)) xs
            have HFC := Lib.hid hfc
            obtain ⟨jj, rfl⟩ : ∃ jj, j = jj + 1 := ⟨j - 1, by omega⟩
            have ej : ((jj + 1 : Nat) : Int) - 1 = (jj : Int) := by omega
            clear hq1 hq2 hfc HQ
            go_wp2_with (go_at_call 48; refine (tyFind_any _ _ _ _ xs _ _ (hr.below ((HBW.out.trans (HBI.out.mono (by have := HBW.out.size; omega))).mono hB)) hBi hn).mono ?_; rintro e w' ⟨rfl, hb⟩)
            go_roundw
            case rel =>
              refine ⟨jj, findI (codeB (s.extract a (a + (jj + 1)))) xs, by omega, by omega, by go_num, rfl, bl_trans HBI.out hb, ?_⟩
              show _ ∨ _
              rw [HF.out]
              by_cases h0 : 0 ≤ findI (fit (r.take (jj + 1))) xs
              · exact .inr ⟨h0, HQ2.out.trans (bestN_hit h0)⟩
              · refine .inl ⟨?_, HQ2.out.trans (bestN_miss h0)⟩
                rcases HFC.out with h | ⟨k, _, h, _⟩
                · exact h
                · omega
            case measure => first | (simp [intOf]; done) | (simp [intOf]; omega)
          · have HB := Lib.hid (show best xs r = q by rcases HQ.out with h | h <;> omega)
            have hneg := hq
            clear HQ
            rcases best_cases xs r with hb0 | ⟨m, k, x, m1, m2, m3, hbk, hxk, hkl, hxs⟩
            · have := HB.out
              omega
            · obtain rfl : (k : Int) = q := by rw [← hbk]; exact HB.out
              obtain ⟨tt, rfl⟩ : ∃ tt, t = tt + 1 := ⟨t - 1, by omega⟩
              have HST := Lib.hid (show setGo xs tt ((bytes s).drop (a + m)) (L ++ [(k : Int)]) = setV xs (bytes s) by rw [← HG.out, setGo_step HNE.out hbk hxk, hxs, HRR.out, List.drop_drop])
              have hrlen := HRL.out
              have HO2 := Lib.hid (HO.out.below HBI.out)
              have HXK := Lib.hid hxk
              have HXS := Lib.hid hxs
              clear hbk hxk hxs
              go_wp2_with (at_builtin; refine wpList_append_own_at _ rfl _ _ 39 rfl w.heap.size 3 i0 (.int .i64 0) 1 8 Try.underlying39 hi0 hi1 hi2 hi3 rfl (by decide) _ _ _ rfl ((HO2.out.alloc _).own) ⟨wr.heap.size, 0, none⟩ 1 1 [.int .i64 (k)] rfl rfl ?xc1 ?xc2 ?xc3 ?xc4 ?xc5 ?_)
              case xc2 => first | rfl | (intro u hu; simp at hu; subst hu; rfl)
              case xc3 => unfold maxLen; omega
              case xc4 => omega
              case xc5 => have := HO2.out.gr.size; simp; omega
              intro v' w5 hown5 hg5 _ hat5
              have HN5 := Lib.hid (HO2.out.push hown5 hg5 hat5)
              have hb5 : Below w.heap.size w w5 := HN5.out.to_below (Nat.le_refl _) (Nat.le_refl _)
              obtain ⟨bb, offb, y, rfl, _, hy, d0, d1⟩ := (hr.below (hb5.mono hB)).atSrt (show k < n by omega)
              obtain rfl : x = y := by have := HXK.out; rw [this] at hy; exact Option.some.inj hy
              have i0 : (0 : Int) ≤ (k : Int) := by omega
              have i1 : (k : Int) < (n : Int) := by omega
              have hxz : x.code.size = m := HXS.out
              clear hown5 hg5 hat5 hy hb5
              go_wp2
              go_roundw
              case rel => exact ⟨a + m, tt, L ++ [(k : Int)], by omega, by go_num, by simp; omega, by simpa using HN5.out, by omega, HST.out⟩
              case measure => simp [intOf]; omega
        · obtain rfl : j = 0 := by omega
          have HB := Lib.hid (show best xs r = q from HQ.out.elim (fun h => h.2.trans (by rw [h.1]; rfl)) (fun h => h.2))
          clear HQ
          by_cases hneg : q < 0
          · skip
            have hV : setV xs (bytes s) = none := by rw [← HG.out]; exact setGo_fail (by omega) HNE.out (by rw [HB.out]; exact hneg)
            obtain ⟨e1, e2⟩ := set_none hV
            have E1 := Lib.hid e1
            have E2 := Lib.hid e2
            have HBF := Lib.hid (show Below w.heap.size w wr from HBW.out.trans (HBI.out.mono (by have := HBW.out.size; omega)))
            clear hV e1 e2
            go_wp2
            go_ret2
            rw [E1.out, E2.out]
            exact rets_nil rfl HBF.out _ _
          · skip
            rcases best_cases xs r with hb0 | ⟨m, k, x, m1, m2, m3, hbk, hxk, hkl, hxs⟩
            · have := HB.out
              omega
            · obtain rfl : (k : Int) = q := by rw [← hbk]; exact HB.out
              obtain ⟨tt, rfl⟩ : ∃ tt, t = tt + 1 := ⟨t - 1, by omega⟩
              have HST := Lib.hid (show setGo xs tt ((bytes s).drop (a + m)) (L ++ [(k : Int)]) = setV xs (bytes s) by rw [← HG.out, setGo_step HNE.out hbk hxk, hxs, HRR.out, List.drop_drop])
              have hrlen := HRL.out
              have HO2 := Lib.hid (HO.out.below HBI.out)
              have HXK := Lib.hid hxk
              have HXS := Lib.hid hxs
              clear hbk hxk hxs
              go_wp2_with (at_builtin; refine wpList_append_own_at _ rfl _ _ 39 rfl w.heap.size 3 i0 (.int .i64 0) 1 8 Try.underlying39 hi0 hi1 hi2 hi3 rfl (by decide) _ _ _ rfl ((HO2.out.alloc _).own) ⟨wr.heap.size, 0, none⟩ 1 1 [.int .i64 (k)] rfl rfl ?yc1 ?yc2 ?yc3 ?yc4 ?yc5 ?_)
              case yc2 => first | rfl | (intro u hu; simp at hu; subst hu; rfl)
              case yc3 => unfold maxLen; omega
              case yc4 => omega
              case yc5 => have := HO2.out.gr.size; simp; omega
              intro v' w5 hown5 hg5 _ hat5
              have HN5 := Lib.hid (HO2.out.push hown5 hg5 hat5)
              have hb5 : Below w.heap.size w w5 := HN5.out.to_below (Nat.le_refl _) (Nat.le_refl _)
              obtain ⟨bb, offb, y, rfl, _, hy, d0, d1⟩ := (hr.below (hb5.mono hB)).atSrt (show k < n by omega)
              obtain rfl : x = y := by have := HXK.out; rw [this] at hy; exact Option.some.inj hy
              have i0 : (0 : Int) ≤ (k : Int) := by omega
              have i1 : (k : Int) < (n : Int) := by omega
              have hxz : x.code.size = m := HXS.out
              clear hown5 hg5 hat5 hy hb5
              go_wp2
              go_roundw
              case rel => exact ⟨a + m, tt, L ++ [(k : Int)], by omega, by go_num, by simp; omega, by simpa using HN5.out, by omega, HST.out⟩
              case measure => simp [intOf]; omega
    · obtain rfl : a = s.size := by omega
      have hV : setV xs (bytes s) = some L := by rw [← HG.out]; exact setGo_end (by omega) (drop_nil (Nat.le_refl _))
      obtain ⟨e1, e2⟩ := set_some hV
      have hbl := hown.to_below (B := w.heap.size) (Nat.le_refl _) (Nat.le_refl _)
      obtain ⟨A', cap, rfl, hwr⟩ := own_wr hown.own
      have HW := Lib.hid hwr
      have E1 := Lib.hid e1
      have E2 := Lib.hid e2
      clear hown hwr hV e1 e2
      go_wp2
      go_ret2
      refine ⟨A', cap, by rw [E1.out, E2.out]; rfl, by rw [E1.out]; exact HW.out, hbl⟩
end Go.Proofs.Ytfehdpaoboiodaa
