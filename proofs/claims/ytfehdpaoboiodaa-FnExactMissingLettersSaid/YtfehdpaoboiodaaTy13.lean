/-
  The first sort that runs out: contracts of both sides; the law's walk.
-/
import Derived.Test.YtfehdpaoboiodaaTy12
import Derived.Test.YtfehdpaoboiodaaOwn
namespace Go.Proofs.Ytfehdpaoboiodaa
open Go.RowKit
set_option linter.unusedVariables false
attribute [local go_sem ↓] Go.wp_at_zero Go.wp_at_succ

def TripB (p q : Int) (b : Bool) (w : World) (e : Ending) (w' : World) : Prop := e = .returned (.tuple #[.int .i64 p, .int .i64 q, .bool b]) ∧ Below w.heap.size w w'
theorem trip_b {p q x y : Int} {b c : Bool} {w w' : World} (h1 : p = x) (h2 : q = y) (h : b = c) (hb : Below w.heap.size w w') : TripB x y c w (.returned (.tuple #[.int .i64 p, .int .i64 q, .bool b])) w' := by
  subst h1 h2 h; exact ⟨rfl, hb⟩
theorem drop_at {α : Type} {L : List α} {j : Nat} {i : α} (h : L[j]? = some i) : L.drop j = i :: L.drop (j + 1) := by
  obtain ⟨h1, h2⟩ := List.getElem?_eq_some_iff.1 h
  rw [List.drop_eq_getElem_cons h1, h2]
/-- take types of the sorts of a list, as long as there are some -/
def inL : List Int → List Int → Option Int × List Int
  | N, [] => (none, N)
  | N, i :: L => if N.getD i.toNat 0 = 0 then (some i, N) else inL (N.set i.toNat (N.getD i.toNat 0 - 1)) L
theorem inL_stop {N L : List Int} {j i : Nat} (h : L[j]? = some (i : Int)) (hv : N[i]? = some 0) : inL N (L.drop j) = (some (i : Int), N) := by
  rw [drop_at h, inL]; simp [List.getD, hv]
theorem inL_step {N L : List Int} {j i : Nat} {v : Int} (h : L[j]? = some (i : Int)) (hv : N[i]? = some v) (h0 : v ≠ 0) : inL N (L.drop j) = inL (N.set i (v - 1)) (L.drop (j + 1)) := by
  rw [drop_at h, inL]; simp [List.getD, hv, h0]
theorem inL_end {N L : List Int} {j : Nat} (h : L.length ≤ j) : inL N (L.drop j) = (none, N) := by
  rw [List.drop_eq_nil_of_le h, inL]
def frL (xs : List Srt) : List Int → List ByteArray → Int → Int × Int × Bool
  | _, [], _ => (0, 0, false)
  | N, s :: ws, k => match inL N (setL xs s) with
    | (some i, _) => (k, i, true)
    | (none, N') => frL xs N' ws (k + 1)
theorem frL_stop {xs : List Srt} {N N' : List Int} {ws : List ByteArray} {k : Nat} {s : ByteArray} {q i : Int} (h : ws[k]? = some s) (hi : inL N (setL xs s) = (some i, N')) : frL xs N (ws.drop k) q = (q, i, true) := by
  rw [drop_at h, frL, hi]
theorem frL_step {xs : List Srt} {N N' : List Int} {ws : List ByteArray} {k : Nat} {s : ByteArray} {q : Int} (h : ws[k]? = some s) (hi : inL N (setL xs s) = (none, N')) : frL xs N (ws.drop k) q = frL xs N' (ws.drop (k + 1)) (q + 1) := by
  rw [drop_at h, frL, hi]
theorem frL_end {xs : List Srt} {N : List Int} {ws : List ByteArray} {k : Nat} {q : Int} (h : ws.length ≤ k) : frL xs N (ws.drop k) q = (0, 0, false) := by
  rw [List.drop_eq_nil_of_le h, frL]
def frR (xs : List Srt) (ls : List Int) (ws : List ByteArray) : Int × Int × Bool := if askB xs ls ws = true then frL xs ls ws 0 else (0, 0, false)
theorem frR_no {xs : List Srt} {ls : List Int} {ws : List ByteArray} (h : askB xs ls ws = false) : frR xs ls ws = (0, 0, false) := by simp [frR, h]
theorem frR_yes {xs : List Srt} {ls : List Int} {ws : List ByteArray} (h : askB xs ls ws = true) : frR xs ls ws = frL xs ls ws 0 := by simp [frR, h]
theorem inR_set {N : List Int} {B v : Int} (h : inR N B) (i : Nat) (h0 : 0 ≤ v) (h1 : v ≤ B) : inR (N.set i v) B := by
  intro u hu
  rcases List.mem_or_eq_of_mem_set hu with h2 | h2
  · exact h u h2
  · subst h2; exact ⟨h0, h1⟩
theorem inR_all {ls : List Int} (h : allIn ls 0 100000 = true) : inR ls 100000 := by
  intro v hv
  obtain ⟨k, hk⟩ := List.mem_iff_getElem?.1 hv
  exact allIn_at h hk
/-- a copy of a slice, in memory of the call -/
def CopyP (ls : List Int) (m : Nat) (w : World) (e : Ending) (w' : World) : Prop := ∃ g c, e = .returned (.slice (some ⟨g, 0, none⟩) m c) ∧ w.heap.size ≤ g ∧ g < w'.heap.size ∧ Wr w' w.heap.size (some ⟨g, 0, none⟩) m ls ∧ Below w.heap.size w w'
theorem map_cells {w : World} {ad : Addr} {ls : List Int} (h : ∀ (j : Nat) (x : Int), ls[j]? = some x → w.cell? (ad.add j) = some (.int .i64 x)) : ∀ (j : Nat) (u : Value), (ls.map (Value.int .i64))[j]? = some u → w.cell? (ad.add j) = some u := by
  intro j u hu
  rw [List.getElem?_map] at hu
  rcases hx : ls[j]? with _ | x
  · rw [hx] at hu; cases hu
  · rw [hx] at hu; cases hu; exact h j x hx
theorem copy_cells {w : World} {bb oo m : Nat} {ls : List Int} (hr : Rd cI 1 w w.heap.size (some ⟨bb, oo, none⟩) m ls) (W : World) (hW : Below w.heap.size w W) : ∀ (j : Nat) (u : Value), (ls.map (Value.int .i64))[j]? = some u → W.cell? (Addr.add ⟨bb, oo, none⟩ j) = some u := map_cells fun j x hx => by
  have hl := hr.1
  obtain ⟨b2, o2, x2, e2, _, hx2, hc2⟩ := (hr.below hW).atI (show j < m by have := (List.getElem?_eq_some_iff.1 hx).1; omega)
  obtain ⟨rfl, rfl⟩ : bb = b2 ∧ oo = o2 := by simpa using e2
  rw [hx] at hx2
  cases hx2
  by_cases hj : j = 0
  · subst hj; simpa [Addr.add] using hc2
  · simpa [Addr.add, hj] using hc2
theorem ints_one (ls : List Int) : ∀ u ∈ ls.map (Value.int .i64), u.oneCell' = true := by
  intro u hu
  obtain ⟨x, _, rfl⟩ := List.mem_map.1 hu
  rfl
theorem own_start (w : World) : OwnG 3 1 w.heap.size w w.heap.size (w.alloc (.cells #[] 3)) (.slice (some ⟨w.heap.size, 0, none⟩) 0 0) 0 [] :=
  ⟨own_empty (heap_alloc_new w _) (Nat.le_refl _), fun k hk => .inl (by simpa [Value.ownBlock] using hk.symm), World.grownBy_alloc _ _ _⟩
set_option maxHeartbeats 1000000 in
theorem l1Own_any (B : Option Addr) (m d : Nat) (ls : List Int) (w : World) (hr : Rd cI 1 w w.heap.size B m ls) (h0 : 0 < m) (hm : m ≤ 1048576) :
    Calls Try.prog 64 #[.slice B m d] w (CopyP ls m w) := by
  have hl := hr.1
  obtain ⟨i0, hi0, hi1, hi2, hi3⟩ := info_parts infoI
  obtain ⟨bb, oo, x0, rfl, hlt, _, _⟩ := hr.atI h0
  have HC := Lib.hid (copy_cells hr)
  clear hr
  go_enter Try.func64, Try.ntmps64
  go_wp2_with (at_builtin; refine wpList_append_own_at _ rfl _ _ 39 rfl w.heap.size 3 i0 (.int .i64 0) 1 8 Try.underlying39 hi0 hi1 hi2 hi3 rfl (by decide) _ _ _ rfl (own_empty (heap_alloc_new w _) (Nat.le_refl _)) ⟨bb, oo, none⟩ m d (ls.map (Value.int .i64)) rfl (by rw [List.length_map]; omega) (HC.out _ ((Below.refl _ _).alloc (Nat.le_refl _) _)) ?c1 ?c2 ?c3 ?c4 ?_)
  case c1 => exact ints_one ls
  case c2 => unfold maxLen; omega
  case c3 => omega
  case c4 => first | (simp; done) | (simp; omega)
  intro v' wc hown5 hg5 _ hat5
  have HN5 := (own_start w).step hown5 hg5 (by simpa using hat5)
  have hbc : Below w.heap.size w wc := HN5.to_below (Nat.le_refl _) (Nat.le_refl _)
  obtain ⟨A1, cg, rfl, hwc⟩ := own_wr (show wc.ownsRow w.heap.size 3 1 v' m (ls.map (Value.int .i64)) by simpa using hown5)
  obtain ⟨g, rfl, hg1, hg2, _, _⟩ := hwc.2 (by omega)
  clear HN5 hown5 hg5 hat5
  go_wp2
  go_ret
  exact ⟨g, cg, rfl, hg1, hg2, hwc, hbc⟩
set_option maxHeartbeats 4000000 in
theorem specFR_any (A B C : Option Addr) (n c m d k f : Nat) (xs : List Srt) (ls : List Int) (ws : List ByteArray) (w : World) (hh : SC w A B C n m k xs ls ws) :
    Calls Try.prog 41 #[.slice A n c, .slice B m d, .slice C k f] w (TripB (frR xs ls ws).1 (frR xs ls ws).2.1 (frR xs ls ws).2.2 w) := by
  rcases hask : askB xs ls ws with _ | _
  · have HA := Lib.hid (biAsked_is A B C n c m d k f xs ls ws w hh hask)
    rw [frR_no hask]
    clear hask hh
    go_enter Try.func41, Try.ntmps41
    go_wp2_with (go_at_call 60; refine HA.out.mono ?_; rintro e w' ⟨rfl, hb⟩)
    go_ret3
    exact trip_b rfl rfl rfl hb
  · have HA := Lib.hid (biAsked_is A B C n c m d k f xs ls ws w hh hask)
    rw [frR_yes hask]
    obtain ⟨R, hR⟩ : ∃ R, frL xs ls ws 0 = R := ⟨_, rfl⟩
    rw [hR]
    have HRR := Lib.hid hR
    clear hR
    have HH := Lib.hid hh
    have HASK := Lib.hid hask
    obtain ⟨N, hNe⟩ : ∃ N, needL xs ws = N := ⟨_, rfl⟩
    have HNE := Lib.hid hNe
    obtain ⟨f1, f2, f3, f4, f5⟩ := ask_copy hask
    obtain ⟨f6, f7⟩ := cnt_in f5
    have hl := hh.1.1.1
    have hlm := hh.1.2.1.1
    have hlw := hh.2.2.1.1
    have hmn : m = n := by omega
    have hNl : N.length = n := by rw [← hNe, ← hl]; exact needTo_len xs ws _
    have hn32 := (font_len f1).2
    have hNR : inR N 640 := by
      obtain ⟨g1, g2⟩ := words_each f2
      intro v hv
      rw [← hNe] at hv
      have := needTo_bd (xs := xs) g1 ws.length v hv
      omega
    have HNR := Lib.hid hNR
    have HLS := Lib.hid f7
    have HFB := Lib.hid f1
    subst hmn
    clear f1 f2 f3 f4 f5 f6 f7 hNR hNe
    have h0m : 0 < m := by have := (font_len HFB.out).1; omega
    have hm2 : m ≤ 1048576 := by omega
    have hk2 : k ≤ 1048576 := HH.out.2.2.2.2.1
    have hWL := Lib.hid (words_each (ask_copy hask).2.1).1
    clear hask hh
    go_enter Try.func41, Try.ntmps41
    go_wp2_with fail
    refine HA.out.mono ?_
    rintro e wb ⟨rfl, hb1⟩
    have HCb := Lib.hid (HH.out.below hb1)
    have HBb := Lib.hid hb1
    clear hb1
    go_wp2_with fail
    refine (l1Own_any _ _ _ ls _ HCb.out.1.2.1 h0m hm2).mono ?_
    rintro e wc ⟨g, cg, rfl, hg1, hg2, hwc, hbc⟩
    have HWC := Lib.hid hwc
    have HBC := Lib.hid hbc
    clear hwc hbc
    go_wp2
    go_loopw [25] (fun i wr => ∃ (q : Nat) (N : List Int), q ≤ k ∧ i = .int .i64 q ∧ Below wb.heap.size wb wr ∧ g < wr.heap.size ∧ Wr wr wb.heap.size (some ⟨g, 0, none⟩) m N ∧ inR N 100000 ∧ Hid (frL xs N (ws.drop q) (q : Int) = R)) (fun i _ => k - (intOf i).toNat)
    case atStart => exact ⟨0, ls, Nat.zero_le _, rfl, HBC.out, hg2, HWC.out, inR_all HLS.out, HRR.out⟩
    case round =>
      obtain ⟨q, N1, hq, rfl, hb, hgs, hwr, hir, HR1⟩ := hrel
      by_cases hlt : q < k
      · obtain ⟨wo, rfl⟩ : ∃ wo : World, wo = wr := ⟨_, rfl⟩
        have hsc := HCb.out.below hb
        obtain ⟨bs, offs, s, rfl, hbs, hs, c0⟩ := hsc.2.2.1.atS hlt
        have hws := word_len (hWL.out s (List.mem_of_getElem? hs))
        have HS := Lib.hid hs
        have HB := Lib.hid hb
        have HN := Lib.hid hwr
        have HIR := Lib.hid hir
        have hrr := hsc.1.1
        obtain ⟨s1, s2⟩ := setL_in xs s
        obtain ⟨L, hL⟩ : ∃ L, setL xs s = L := ⟨_, rfl⟩
        obtain ⟨bq, hbq⟩ : ∃ bq, setB xs s = bq := ⟨_, rfl⟩
        have hTS := tySet_any A m c _ xs s wo hrr (Nat.le_refl _) hm2 (by omega)
        rw [hL, hbq] at hTS
        have HTS := Lib.hid hTS
        have HL := Lib.hid hL
        rw [hL] at s1 s2
        have HS1 := Lib.hid s1
        have hL16 : L.length ≤ 16 := by omega
        clear hTS hb hwr hir hrr hs hsc s1 hL hbq
        go_wp2_with fail
        refine HTS.out.mono ?_
        rintro e w3 ⟨A3, c3, rfl, hw3, hb3⟩
        have HW3 := Lib.hid hw3
        have HN3 := Lib.hid (HN.out.below hb3)
        have HB3 := Lib.hid (bl_trans HB.out hb3)
        have hs3 := hb3.size
        clear hw3 hb3
        go_wp2
        go_loopw [38] (fun i wi => ∃ (j : Nat) (N2 : List Int), j ≤ L.length ∧ i = .int .i64 j ∧ Below wb.heap.size wb wi ∧ g < wi.heap.size ∧ Wr wi wb.heap.size (some ⟨g, 0, none⟩) m N2 ∧ inR N2 100000 ∧ Wr wi wo.heap.size A3 L.length L ∧ Hid (inL N2 (L.drop j) = inL N1 L)) (fun i _ => L.length - (intOf i).toNat)
        case atStart => exact ⟨0, N1, Nat.zero_le _, rfl, HB3.out, by omega, HN3.out, HIR.out, HW3.out, rfl⟩
        case round =>
          obtain ⟨j, N2, hj, rfl, hbi, hgi, hni, hri, hli, HI⟩ := hrel
          by_cases hlj : j < L.length
          · obtain ⟨bL, offL, i, rfl, _, hij, hci⟩ := hli.rd.atI hlj
            obtain ⟨ii0, ii1⟩ := HS1.out i (List.mem_of_getElem? hij)
            obtain ⟨ii, rfl⟩ : ∃ ii : Nat, i = (ii : Int) := ⟨i.toNat, by omega⟩
            have hiin : ii < m := by omega
            obtain ⟨g', e, _, hlg, hcg, hfg⟩ := hni.2 h0m
            obtain rfl : g = g' := by simpa using e
            have hnl := hni.1
            obtain ⟨v, hv⟩ : ∃ v, N2[ii]? = some v := ⟨_, List.getElem?_eq_getElem (by omega)⟩
            have hcv := hcg ii v hv
            have hfv := hfg ii
            obtain ⟨v0, v1⟩ := hri v (List.mem_of_getElem? hv)
            have k0 : (0 : Int) ≤ (ii : Int) := by omega
            have k1 : (ii : Int) < (m : Int) := by omega
            by_cases hvz : v = 0
            · subst hvz
              have HST := Lib.hid (inL_stop hij hv)
              have HBI := Lib.hid hbi
              clear hij e hcg hfg hv hni hli hbi hnl hri hfv
              go_wp2
              go_ret3
              have hF := frL_stop (q := (q : Int)) HS.out (by rw [HL.out, ← HI.out]; exact HST.out)
              rw [← HR1.out, hF]
              exact trip_b rfl rfl rfl (bl_trans HBb.out HBI.out)
            · have hve : (v == 0) = false := by simpa using hvz
              have HST := Lib.hid (inL_step hij hv hvz)
              have HNI := Lib.hid hni
              have HLI := Lib.hid hli
              have HBI := Lib.hid hbi
              have HRI := Lib.hid hri
              clear hij e hcg hfg hv hni hli hbi hnl hri
              go_wp2
              go_roundw
              case rel =>
                refine ⟨j + 1, N2.set ii (v - 1), by omega, by go_num, HBI.out.setCell (by omega) _, by simpa [World.setCell] using hgi, ?_, inR_set HRI.out _ (by omega) (by omega), wr_other HLI.out (by omega) _ _, by rw [← HI.out]; exact HST.out.symm⟩
                exact wr_store HNI.out hiin _
              case measure => simp [intOf]; omega
          · obtain rfl : j = L.length := by omega
            have HBI := Lib.hid hbi
            have HNI := Lib.hid hni
            have HRI := Lib.hid hri
            have HEN := Lib.hid (frL_step (q := (q : Int)) HS.out (by rw [HL.out, ← HI.out]; exact inL_end (Nat.le_refl _)))
            clear hbi hni hli hri
            go_wp2
            go_roundw
            case rel => exact ⟨q + 1, N2, by omega, by go_num, HBI.out, hgi, HNI.out, HRI.out, by have := HEN.out; rw [HR1.out] at this; show frL _ _ _ _ = R; simpa using this.symm⟩
            case measure => simp [intOf]; omega
      · obtain rfl : q = k := by omega
        have HB := Lib.hid hb
        have HEN := Lib.hid (frL_end (xs := xs) (N := N1) (ws := ws) (k := q) (q := (q : Int)) (by omega))
        clear hb hwr hir
        go_wp2
        go_ret3
        rw [← HR1.out, HEN.out]
        exact trip_b rfl rfl rfl (bl_trans HBb.out HB.out)
set_option maxHeartbeats 4000000 in
theorem implFR_any (A B C : Option Addr) (n c m d k f : Nat) (xs : List Srt) (ls : List Int) (ws : List ByteArray) (w : World) (hh : SC w A B C n m k xs ls ws) :
    Calls Try.prog 42 #[.slice A n c, .slice B m d, .slice C k f] w (TripB (frR xs ls ws).1 (frR xs ls ws).2.1 (frR xs ls ws).2.2 w) := by
  rcases hask : askB xs ls ws with _ | _
  · obtain ⟨L, hA⟩ := needWith_no A B C n c m d k f xs ls ws w hh hask
    have HA := Lib.hid hA
    rw [frR_no hask]
    clear hask hh hA
    go_enter Try.func42, Try.ntmps42
    go_wp2_with fail
    refine HA.out.mono ?_
    rintro e w2 ⟨A2, c2, rfl, hw2, hb2⟩
    clear hw2
    go_wp2
    go_ret3
    exact trip_b rfl rfl rfl hb2
  · rw [frR_yes hask]
    obtain ⟨R, hR⟩ : ∃ R, frL xs ls ws 0 = R := ⟨_, rfl⟩
    rw [hR]
    have HRR := Lib.hid hR
    clear hR
    obtain ⟨i0, hi0, hi1, hi2, hi3⟩ := info_parts infoI
    have HH := Lib.hid hh
    have HASK := Lib.hid hask
    obtain ⟨N, hNe⟩ : ∃ N, needL xs ws = N := ⟨_, rfl⟩
    have HNE := Lib.hid hNe
    obtain ⟨f1, f2, f3, f4, f5⟩ := ask_copy hask
    obtain ⟨f6, f7⟩ := cnt_in f5
    have hl := hh.1.1.1
    have hlm := hh.1.2.1.1
    have hlw := hh.2.2.1.1
    have hmn : m = n := by omega
    have hNl : N.length = n := by rw [← hNe, ← hl]; exact needTo_len xs ws _
    have hn32 := (font_len f1).2
    have hNR : inR N 640 := by
      obtain ⟨g1, g2⟩ := words_each f2
      intro v hv
      rw [← hNe] at hv
      have := needTo_bd (xs := xs) g1 ws.length v hv
      omega
    have HNR := Lib.hid hNR
    have HLS := Lib.hid f7
    have HFB := Lib.hid f1
    subst hmn
    clear f1 f2 f3 f4 f5 f6 f7 hNR hNe
    have HA := Lib.hid (needWith_yes A B C m c m d k f xs ls ws N w hh hask HNE.out)
    have h0m : 0 < m := by have := (font_len HFB.out).1; omega
    have hm2 : m ≤ 1048576 := by omega
    have hk2 : k ≤ 1048576 := HH.out.2.2.2.2.1
    have hWL := Lib.hid (words_each (ask_copy hask).2.1).1
    have HX := Lib.hid (font_all HFB.out)
    obtain ⟨bb, oo, x0, rfl, _, _, _⟩ := hh.1.2.1.atI h0m
    clear hask hh
    go_enter Try.func42, Try.ntmps42
    go_wp2_with fail
    refine HA.out.mono ?_
    rintro e wb ⟨A2, c2, rfl, hw2, hb1⟩
    have HCb := Lib.hid (HH.out.below hb1)
    have HBb := Lib.hid hb1
    have HC := Lib.hid (copy_cells HCb.out.1.2.1)
    clear hb1 hw2
    go_wp2_with (at_builtin; refine wpList_append_own_at _ rfl _ _ 39 rfl wb.heap.size 3 i0 (.int .i64 0) 1 8 Try.underlying39 hi0 hi1 hi2 hi3 rfl (by decide) _ _ _ rfl (own_empty (heap_alloc_new wb _) (Nat.le_refl _)) ⟨bb, oo, none⟩ m d (ls.map (Value.int .i64)) rfl (by rw [List.length_map]; omega) (HC.out _ ((Below.refl _ _).alloc (Nat.le_refl _) _)) ?c1 ?c2 ?c3 ?c4 ?_)
    case c1 => exact ints_one ls
    case c2 => unfold maxLen; omega
    case c3 => omega
    case c4 => first | (simp; done) | (simp; omega)
    intro v' wc hown5 hg5 _ hat5
    have HN5 := (own_start wb).step hown5 hg5 (by simpa using hat5)
    have hbc : Below wb.heap.size wb wc := HN5.to_below (Nat.le_refl _) (Nat.le_refl _)
    obtain ⟨A1, cg, rfl, hwc⟩ := own_wr (show wc.ownsRow wb.heap.size 3 1 v' m (ls.map (Value.int .i64)) by simpa using hown5)
    obtain ⟨g, rfl, hg1, hg2, _, _⟩ := hwc.2 (by omega)
    clear HN5 hown5 hg5 hat5
    go_wp2
    have HWC := Lib.hid hwc
    have HBC := Lib.hid hbc
    clear hwc hbc
    go_wp2
    go_loopw [32] (fun i wr => ∃ (q : Nat) (N : List Int), q ≤ k ∧ i = .int .i64 q ∧ Below wb.heap.size wb wr ∧ g < wr.heap.size ∧ Wr wr wb.heap.size (some ⟨g, 0, none⟩) m N ∧ inR N 100000 ∧ Hid (frL xs N (ws.drop q) (q : Int) = R)) (fun i _ => k - (intOf i).toNat)
    case atStart => exact ⟨0, ls, Nat.zero_le _, rfl, HBC.out, hg2, HWC.out, inR_all HLS.out, HRR.out⟩
    case round =>
      obtain ⟨q, N1, hq, rfl, hb, hgs, hwr, hir, HR1⟩ := hrel
      by_cases hlt : q < k
      · obtain ⟨wo, rfl⟩ : ∃ wo : World, wo = wr := ⟨_, rfl⟩
        have hsc := HCb.out.below hb
        obtain ⟨bs, offs, s, rfl, hbs, hs, c0⟩ := hsc.2.2.1.atS hlt
        have hws := word_len (hWL.out s (List.mem_of_getElem? hs))
        have HS := Lib.hid hs
        have HB := Lib.hid hb
        have HN := Lib.hid hwr
        have HIR := Lib.hid hir
        have hrr := hsc.1.1
        obtain ⟨s1, s2⟩ := setL_in xs s
        obtain ⟨L, hL⟩ : ∃ L, setL xs s = L := ⟨_, rfl⟩
        obtain ⟨bq, hbq⟩ : ∃ bq, setB xs s = bq := ⟨_, rfl⟩
        have hTS := sortsOf_any A m c _ xs s wo hrr (Nat.le_refl _) hm2 (by omega) HX.out
        rw [hL, hbq] at hTS
        have HTS := Lib.hid hTS
        have HL := Lib.hid hL
        rw [hL] at s1 s2
        have HS1 := Lib.hid s1
        have hL16 : L.length ≤ 16 := by omega
        clear hTS hb hwr hir hrr hs hsc s1 hL hbq
        go_wp2_with fail
        refine HTS.out.mono ?_
        rintro e w3 ⟨A3, c3, rfl, hw3, hb3⟩
        have HW3 := Lib.hid hw3
        have HN3 := Lib.hid (HN.out.below hb3)
        have HB3 := Lib.hid (bl_trans HB.out hb3)
        have hs3 := hb3.size
        clear hw3 hb3
        go_wp2
        go_loopw [45] (fun i wi => ∃ (j : Nat) (N2 : List Int), j ≤ L.length ∧ i = .int .i64 j ∧ Below wb.heap.size wb wi ∧ g < wi.heap.size ∧ Wr wi wb.heap.size (some ⟨g, 0, none⟩) m N2 ∧ inR N2 100000 ∧ Wr wi wo.heap.size A3 L.length L ∧ Hid (inL N2 (L.drop j) = inL N1 L)) (fun i _ => L.length - (intOf i).toNat)
        case atStart => exact ⟨0, N1, Nat.zero_le _, rfl, HB3.out, by omega, HN3.out, HIR.out, HW3.out, rfl⟩
        case round =>
          obtain ⟨j, N2, hj, rfl, hbi, hgi, hni, hri, hli, HI⟩ := hrel
          by_cases hlj : j < L.length
          · obtain ⟨bL, offL, i, rfl, _, hij, hci⟩ := hli.rd.atI hlj
            obtain ⟨ii0, ii1⟩ := HS1.out i (List.mem_of_getElem? hij)
            obtain ⟨ii, rfl⟩ : ∃ ii : Nat, i = (ii : Int) := ⟨i.toNat, by omega⟩
            have hiin : ii < m := by omega
            obtain ⟨g', e, _, hlg, hcg, hfg⟩ := hni.2 h0m
            obtain rfl : g = g' := by simpa using e
            have hnl := hni.1
            obtain ⟨v, hv⟩ : ∃ v, N2[ii]? = some v := ⟨_, List.getElem?_eq_getElem (by omega)⟩
            have hcv := hcg ii v hv
            have hfv := hfg ii
            obtain ⟨v0, v1⟩ := hri v (List.mem_of_getElem? hv)
            have k0 : (0 : Int) ≤ (ii : Int) := by omega
            have k1 : (ii : Int) < (m : Int) := by omega
            by_cases hvz : v = 0
            · subst hvz
              have HST := Lib.hid (inL_stop hij hv)
              have HBI := Lib.hid hbi
              clear hij e hcg hfg hv hni hli hbi hnl hri hfv
              go_wp2
              go_ret3
              have hF := frL_stop (q := (q : Int)) HS.out (by rw [HL.out, ← HI.out]; exact HST.out)
              rw [← HR1.out, hF]
              exact trip_b rfl rfl rfl (bl_trans HBb.out HBI.out)
            · have hve : (v == 0) = false := by simpa using hvz
              have HST := Lib.hid (inL_step hij hv hvz)
              have HNI := Lib.hid hni
              have HLI := Lib.hid hli
              have HBI := Lib.hid hbi
              have HRI := Lib.hid hri
              clear hij e hcg hfg hv hni hli hbi hnl hri
              go_wp2
              go_roundw
              case rel =>
                refine ⟨j + 1, N2.set ii (v - 1), by omega, by go_num, HBI.out.setCell (by omega) _, by simpa [World.setCell] using hgi, ?_, inR_set HRI.out _ (by omega) (by omega), wr_other HLI.out (by omega) _ _, by rw [← HI.out]; exact HST.out.symm⟩
                exact wr_store HNI.out hiin _
              case measure => simp [intOf]; omega
          · obtain rfl : j = L.length := by omega
            have HBI := Lib.hid hbi
            have HNI := Lib.hid hni
            have HRI := Lib.hid hri
            have HEN := Lib.hid (frL_step (q := (q : Int)) HS.out (by rw [HL.out, ← HI.out]; exact inL_end (Nat.le_refl _)))
            clear hbi hni hli hri
            go_wp2
            go_roundw
            case rel => exact ⟨q + 1, N2, by omega, by go_num, HBI.out, hgi, HNI.out, HRI.out, by have := HEN.out; rw [HR1.out] at this; show frL _ _ _ _ = R; simpa using this.symm⟩
            case measure => simp [intOf]; omega
      · obtain rfl : q = k := by omega
        have HB := Lib.hid hb
        have HEN := Lib.hid (frL_end (xs := xs) (N := N1) (ws := ws) (k := q) (q := (q : Int)) (by omega))
        clear hb hwr hir
        go_wp2
        go_ret3
        rw [← HR1.out, HEN.out]
        exact trip_b rfl rfl rfl (bl_trans HBb.out HB.out)
set_option maxHeartbeats 4000000 in
theorem lawFirstRunOut (A : Option Addr) (n c : Nat) (xs : List Srt) (B : Option Addr) (m d : Nat) (ls : List Int) (C : Option Addr) (k f : Nat) (ws : List ByteArray) (w : World) (hr : Rd cSrt 2 w w.heap.size A n xs) (hn : n ≤ maxLen) (hok : ∀ x ∈ xs, okSrt x) (hrl : Rd cI 1 w w.heap.size B m ls) (hnn : m ≤ maxLen) (_ : ∀ x ∈ ls, I64 x) (hrs : Rd cS 1 w w.heap.size C k ws) (hkk : k ≤ maxLen) (hoks : ∀ x ∈ ws, x.size ≤ maxLen) : Calls Try.prog 12 #[.slice A n c, .slice B m d, .slice C k f] w fun e w' => e = .returned (.bool (true)) ∧ Below w.heap.size w w' := by
  have hn' := hn
  unfold maxLen at hn'
  have hnn' := hnn
  unfold maxLen at hnn'
  have HN := Lib.hid hn
  have HNN := Lib.hid hnn
  have HKK := Lib.hid hkk
  have HOK := Lib.hid hok
  have HOS := Lib.hid hoks
  have HS := Lib.hid (szSortS_any A n c _ xs 1048576 w hr (Nat.le_refl _) hn hok (by omega) (by omega))
  have HSS := Lib.hid (fun (l : Int) (W : World) (h : Below w.heap.size w W) h0 h1 => szStringS_any C k f _ ws l W (hrs.below h) hkk hoks h0 h1)
  clear hn hok hnn hkk hoks
  by_cases hbig : (1048576 : Int) < (m : Int)
  · go_enter Try.func12, Try.ntmps12
    go_wp2
    go_ret
    exact ⟨rfl, by repeat (first | (with_reducible exact Below.refl _ _) | (with_reducible assumption) | (with_reducible refine bl_alloc ?_ _) | (with_reducible refine bl_drew ?_) | (with_reducible refine bl_drewN ?_ _) | ((with_reducible refine bl_set ?_ ?hb _); (case hb => first | (simp; done) | omega | (simp; omega))) | (with_reducible refine bl_trans ?_ (by assumption)))⟩
  go_enter Try.func12, Try.ntmps12
  go_wp2_with fail
  refine HS.out.mono ?_
  rintro e w0 ⟨r, rfl, hsz, hb0⟩
  have HSZ := Lib.hid hsz
  have HB0 := Lib.hid hb0
  clear hsz hb0
  by_cases hneg : r < 0
  · go_wp2_with fail
    go_ret
    exact ⟨rfl, HB0.out⟩
  have hn2 : n ≤ 1048576 := by
    rcases HSZ.out with h | h <;> omega
  have hr1 : r ≤ 1048576 := by
    rcases HSZ.out with h | h <;> omega
  go_wp2_with fail
  refine (HSS.out r _ HB0.out (by omega) hr1).mono ?_
  rintro e w00 ⟨r2, rfl, hsz2, rfl⟩
  have HSZ2 := Lib.hid hsz2
  clear hsz2
  by_cases hneg2 : r2 < 0
  · go_wp2_with fail
    go_ret
    exact ⟨rfl, HB0.out⟩
  have hk2 : k ≤ 1048576 := by
    rcases HSZ2.out with h | h <;> omega
  have hn3 : m ≤ 1048576 := by omega
  have HT := Lib.hid (fun (W : World) (h : Below w.heap.size w W) => toSrtS_cap A n c _ xs W (hr.below h) h.size hn2)
  have HI := Lib.hid (fun (W : World) (h : Below w.heap.size w W) => toIntS_cap B m d _ ls W (hrl.below h) h.size hn3)
  have HG := Lib.hid (fun (W : World) (h : Below w.heap.size w W) => toStringS_cap C k f _ ws W (hrs.below h) h.size hk2)
  go_wp2_with fail
  refine (HT.out _ HB0.out).mono ?_
  rintro e w1 ⟨A1, rfl, h1, hb⟩
  have HB1 := Lib.hid (bl_trans HB0.out hb)
  clear hb
  go_wp2_with fail
  refine (HI.out _ HB1.out).mono ?_
  rintro e w2 ⟨A2, rfl, h2, hb⟩
  have HB2 := Lib.hid (bl_trans HB1.out hb)
  have h12 := h1.below hb
  clear hb h1
  go_wp2_with fail
  refine (HG.out _ HB2.out).mono ?_
  rintro e w3 ⟨A3, rfl, h3, hb⟩
  have HB3 := Lib.hid (bl_trans HB2.out hb)
  have HO3 := Lib.hid (show SC w3 A1 A2 A3 n m k xs ls ws from ⟨⟨(h12.below hb).rd, (h2.below hb).rd, hn2, hn3, HOK.out⟩, ⟨(h12.below hb).rd, h3.rd, hn2, hk2, HOK.out, HOS.out⟩⟩)
  clear hb h12 h2 h3
  go_wp2_with fail
  refine (specFR_any _ _ _ _ _ _ _ _ _ xs ls ws _ HO3.out).mono ?_
  rintro e w4 ⟨rfl, hb⟩
  have HB4 := Lib.hid (bl_trans HB3.out hb)
  clear hb
  go_wp2_with fail
  refine (HT.out _ HB4.out).mono ?_
  rintro e w5 ⟨A5, rfl, h5, hb⟩
  have HB5 := Lib.hid (bl_trans HB4.out hb)
  clear hb
  go_wp2_with fail
  refine (HI.out _ HB5.out).mono ?_
  rintro e w6 ⟨A6, rfl, h6, hb⟩
  have HB6 := Lib.hid (bl_trans HB5.out hb)
  have h56 := h5.below hb
  clear hb h5
  go_wp2_with fail
  refine (HG.out _ HB6.out).mono ?_
  rintro e w7 ⟨A7, rfl, h7, hb⟩
  have HB7 := Lib.hid (bl_trans HB6.out hb)
  have HO7 := Lib.hid (show SC w7 A5 A6 A7 n m k xs ls ws from ⟨⟨(h56.below hb).rd, (h6.below hb).rd, hn2, hn3, HOK.out⟩, ⟨(h56.below hb).rd, h7.rd, hn2, hk2, HOK.out, HOS.out⟩⟩)
  have H57 := Lib.hid (h56.below hb)
  have H67 := Lib.hid (h6.below hb)
  have H77 := Lib.hid h7
  clear hb h56 h6 h7
  go_wp2_with fail
  refine (implFR_any _ _ _ _ _ _ _ _ _ xs ls ws _ HO7.out).mono ?_
  rintro e w8 ⟨rfl, hb⟩
  have HB8 := Lib.hid (bl_trans HB7.out hb)
  have H58 := Lib.hid (H57.out.below hb)
  have H68 := Lib.hid (H67.out.below hb)
  have H78 := Lib.hid (H77.out.below hb)
  clear hb H57 H67 H77
  go_wp2_with fail
  refine (HT.out _ HB8.out).mono ?_
  rintro e w9 ⟨A9, rfl, h9, hb⟩
  have HB9 := Lib.hid (bl_trans HB8.out hb)
  have H59 := Lib.hid (H58.out.below hb)
  have H69 := Lib.hid (H68.out.below hb)
  have H79 := Lib.hid (H78.out.below hb)
  clear hb H58 H68 H78
  go_wp2_with fail
  refine (eqSrtS_same _ _ _ _ _ _ _ xs _ H59.out.rd h9.rd (Nat.le_refl _) (Nat.le_refl _) HN.out).mono ?_
  rintro e w10 ⟨rfl, hb⟩
  have HB10 := Lib.hid (bl_trans HB9.out hb)
  have H6a := Lib.hid (H69.out.below hb)
  have H7a := Lib.hid (H79.out.below hb)
  clear hb h9 H59 H69 H79
  go_wp2_with fail
  refine (HI.out _ HB10.out).mono ?_
  rintro e w11 ⟨A11, rfl, h11, hb⟩
  have HB11 := Lib.hid (bl_trans HB10.out hb)
  have H6b := Lib.hid (H6a.out.below hb)
  have H7b := Lib.hid (H7a.out.below hb)
  clear hb H6a H7a
  go_wp2_with fail
  refine (eqIntS_any _ _ _ _ _ _ _ _ _ _ _ H6b.out.rd h11.rd HNN.out HNN.out).mono ?_
  rintro e w12 ⟨rfl, mm, rfl⟩
  have HB12 := Lib.hid (bl_drewN HB11.out mm)
  have H7c := Lib.hid (H7b.out.drewN mm)
  rw [eqL_same]
  clear h11 H6b H7b
  go_wp2_with fail
  refine (HG.out _ HB12.out).mono ?_
  rintro e w13 ⟨A13, rfl, h13, hb⟩
  have HB13 := Lib.hid (bl_trans HB12.out hb)
  have H7d := Lib.hid (H7c.out.below hb)
  clear hb H7c
  go_wp2_with fail
  refine (eqStringS_same _ _ _ _ _ _ _ ws _ H7d.out.rd h13.rd HKK.out).mono ?_
  rintro e w14 ⟨rfl, mm2, rfl⟩
  go_wp2
  go_ret
  exact ⟨rfl, bl_drewN HB13.out mm2⟩
end Go.Proofs.Ytfehdpaoboiodaa
