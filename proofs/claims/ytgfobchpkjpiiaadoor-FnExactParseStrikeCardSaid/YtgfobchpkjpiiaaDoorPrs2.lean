/-
  The parsers' parts of the specification: a text split at a byte, a number read.
-/
import Derived.Test.YtgfobchpkjpiiaaDoorPrs1
namespace Go.Proofs.YtgfobchpkjpiiaaDoor
open Go.RowKit
set_option linter.unusedVariables false
attribute [local go_sem ↓] Go.wp_at_zero Go.wp_at_succ

theorem own_rdS {w : World} {base : Nat} {v : Value} {n : Nat} {W : List ByteArray} (h : w.ownsRow base 9 1 v n (W.map Value.string)) : ∃ A c, v = .slice A n c ∧ Rd cS 1 w w.heap.size A n W ∧ ∀ b off k, A = some ⟨b, off, k⟩ → base ≤ b := by
  have hl : W.length = n := by simpa using h.1
  rcases h.2 with ⟨rfl, h0⟩ | ⟨g, cap, cur, rfl, hbs, _⟩
  · subst h0; exact ⟨none, 0, rfl, ⟨hl, fun hn => absurd hn (by omega)⟩, fun b off k h => by cases h⟩
  · refine ⟨_, cap, rfl, ⟨hl, fun hn => ⟨g, 0, rfl, (h.lt g rfl).2, fun i x hx j hj => ?_⟩⟩, fun b off k h => by cases h; exact hbs⟩
    have hj0 : j = 0 := by omega
    subst hj0
    have := h.cells (g := g) rfl i (.string x) (by rw [List.getElem?_map, hx]; rfl)
    by_cases hi : i = 0
    · subst hi; simpa [Addr.add, cS] using this
    · simpa [Addr.add, hi, cS] using this
theorem spl_end {b : UInt8} {s : ByteArray} {f : Nat} {W : List ByteArray} (h : spl b [] s.data.toList = W.map (·.data.toList) ++ spl b ((s.data.toList.drop f).take (s.size - f)) (s.data.toList.drop s.size)) : (W ++ [s.extract f s.size]).map (·.data.toList) = spl b [] s.data.toList := by
  have hsz : s.data.toList.length = s.size := Array.length_toList
  have e : s.data.toList.drop s.size = [] := List.drop_eq_nil_of_le (by omega)
  rw [h, e, spl, List.map_append, List.map_singleton, cut_bytes]
theorem spl_hit {b : UInt8} {s : ByteArray} {f j : Nat} {W : List ByteArray} (h : spl b [] s.data.toList = W.map (·.data.toList) ++ spl b ((s.data.toList.drop f).take (j - f)) (s.data.toList.drop j)) (hj : s.data.toList[j]? = some b) : spl b [] s.data.toList = (W ++ [s.extract f j]).map (·.data.toList) ++ spl b ((s.data.toList.drop (j + 1)).take (j + 1 - (j + 1))) (s.data.toList.drop (j + 1)) := by
  obtain ⟨h1, h2⟩ := List.getElem?_eq_some_iff.1 hj
  rw [h, List.drop_eq_getElem_cons h1, h2, spl, if_pos rfl, List.map_append, List.map_singleton, cut_bytes]
  simp
theorem spl_miss {b x : UInt8} {s : ByteArray} {f j : Nat} {W : List ByteArray} (h : spl b [] s.data.toList = W.map (·.data.toList) ++ spl b ((s.data.toList.drop f).take (j - f)) (s.data.toList.drop j)) (hf : f ≤ j) (hj : s.data.toList[j]? = some x) (hx : x ≠ b) : spl b [] s.data.toList = W.map (·.data.toList) ++ spl b ((s.data.toList.drop f).take (j + 1 - f)) (s.data.toList.drop (j + 1)) := by
  obtain ⟨h1, h2⟩ := List.getElem?_eq_some_iff.1 hj
  rw [h, List.drop_eq_getElem_cons h1, h2, spl, if_neg hx]
  congr 2
  rw [show j + 1 - f = (j - f) + 1 by omega, List.take_add_one]
  congr 1
  rw [List.getElem?_drop, show f + (j - f) = j by omega, hj]
  rfl
theorem byte_at {s : ByteArray} {j : Nat} (h : j < s.size) : s.data.toList[j]? = some s[j] := by
  have hsz : s.data.toList.length = s.size := Array.length_toList
  rw [List.getElem?_eq_getElem (by omega)]; rfl
set_option maxRecDepth 8000 in
set_option maxHeartbeats 4000000 in
theorem split_any (s : ByteArray) (hs : s.size ≤ 1048576) (b : UInt8) (k : Int) (hk : k = (b.toNat : Int)) (w : World) :
    Calls Tryd.prog 63 #[.string s, .int .u8 k] w fun e w' => ∃ (W : List ByteArray) (A : Option Addr) (c : Nat), e = .returned (.slice A W.length c) ∧ W.map (·.data.toList) = spl b [] s.data.toList ∧ (∀ x ∈ W, x.size ≤ s.size) ∧ Rd cS 1 w' w'.heap.size A W.length W ∧ (∀ b off k, A = some ⟨b, off, k⟩ → w.heap.size ≤ b) ∧ Below w.heap.size w w' := by
  obtain ⟨i0, hi0, hi1, hi2, hi3⟩ := info_parts infoS
  have HK := Lib.hid hk
  clear hk
  have HO0 : OwnG 9 1 w.heap.size w w.heap.size w (.slice none 0 0) 0 [] := OwnG.nil _ _
  go_enter Tryd.func63, Tryd.ntmps63
  go_wp2
  go_loopw [5, 6, 7] (fun o fr i wr => ∃ (j f : Nat) (W : List ByteArray), j ≤ s.size ∧ f ≤ j ∧ W.length ≤ j ∧ i = .int .i64 j ∧ fr = .int .i64 f ∧ Hid (spl b [] s.data.toList = W.map (·.data.toList) ++ spl b ((s.data.toList.drop f).take (j - f)) (s.data.toList.drop j)) ∧ Hid (∀ x ∈ W, x.size ≤ s.size) ∧ Hid (OwnG 9 1 w.heap.size w w.heap.size wr o W.length (W.map Value.string))) (fun _ _ i _ => s.size - (intOf i).toNat)
  case atStart => exact ⟨0, 0, [], Nat.zero_le _, Nat.le_refl _, Nat.le_refl _, rfl, rfl, Lib.hid (by simp), Lib.hid (by simp), Lib.hid HO0⟩
  case round =>
    obtain ⟨j, f, W, hj, hf, hWl, rfl, rfl, HS, HZ, HO⟩ := hrel
    have hso := HO.out.gr.size
    by_cases hlt : j < s.size
    · have g1 : (0 : Int) ≤ (j : Int) := by omega
      have g2 : (j : Int) < (s.size : Int) := by omega
      by_cases hx : s[j] = b
      · have hx2 : ((s[j].toNat : Nat) : Int) = k := by rw [hx, HK.out]
        have HS2 := Lib.hid (spl_hit HS.out (by rw [byte_at hlt, hx]))
        clear hx
        go_wp2_with (at_builtin; refine wpList_append_own_at _ rfl _ _ 85 rfl w.heap.size 9 i0 (.string ⟨#[]⟩) 1 16 Tryd.underlying85 hi0 hi1 hi2 hi3 rfl (by decide) _ _ _ rfl ((HO.out.alloc _).own) ⟨wr.heap.size, 0, none⟩ 1 1 [.string (s.extract f j)] rfl rfl ?zc1 ?zc2 ?zc3 ?zc4 ?zc5 ?_)
        case zc1 => exact cell_one_new _ _ _
        case zc2 => first | rfl | (intro u hu; simp at hu; subst hu; rfl)
        case zc3 => unfold maxLen; omega
        case zc4 => omega
        case zc5 => simp; omega
        intro v2 w5 hown5 hg5 _ hat5
        have HO5 := Lib.hid (HO.out.push hown5 hg5 (by simpa using hat5))
        clear hown5 hg5 hat5
        go_wp2
        go_roundw
        case rel => exact ⟨j + 1, j + 1, W ++ [s.extract f j], by omega, by omega, by rw [List.length_append, List.length_singleton]; omega, by go_num, by go_num, HS2, Lib.hid (fun x hx => by rw [List.mem_append, List.mem_singleton] at hx; rcases hx with hx | rfl; exact HZ.out x hx; rw [ByteArray.size_extract]; omega), Lib.hid (by rw [List.length_append, List.map_append]; exact HO5.out)⟩
        case measure => simp [intOf]; omega
      · have hx2 : ¬ ((s[j].toNat : Nat) : Int) = k := by
          rw [HK.out]
          intro h
          exact hx (UInt8.toNat_inj.1 (by omega))
        have HS2 := Lib.hid (spl_miss HS.out hf (byte_at hlt) hx)
        clear hx
        go_wp2
        go_roundw
        case rel => exact ⟨j + 1, f, W, by omega, by omega, by omega, by go_num, rfl, HS2, HZ, HO⟩
        case measure => simp [intOf]; omega
    · have hjn : j = s.size := by omega
      subst hjn
      have HS2 := Lib.hid (spl_end HS.out)
      go_wp2_with (at_builtin; refine wpList_append_own_at _ rfl _ _ 85 rfl w.heap.size 9 i0 (.string ⟨#[]⟩) 1 16 Tryd.underlying85 hi0 hi1 hi2 hi3 rfl (by decide) _ _ _ rfl ((HO.out.alloc _).own) ⟨wr.heap.size, 0, none⟩ 1 1 [.string (s.extract f s.size)] rfl rfl ?zc1 ?zc2 ?zc3 ?zc4 ?zc5 ?_)
      case zc1 => exact cell_one_new _ _ _
      case zc2 => first | rfl | (intro u hu; simp at hu; subst hu; rfl)
      case zc3 => unfold maxLen; omega
      case zc4 => omega
      case zc5 => simp; omega
      intro v2 w5 hown5 hg5 _ hat5
      have HO5 := Lib.hid (HO.out.push hown5 hg5 (by simpa using hat5))
      clear hown5 hg5 hat5
      have hown : w5.ownsRow w.heap.size 9 1 v2 (W ++ [s.extract f s.size]).length ((W ++ [s.extract f s.size]).map Value.string) := by rw [List.length_append, List.map_append]; exact HO5.out.own
      obtain ⟨A3, c3, rfl, hr3, hb3⟩ := own_rdS hown
      have HR := Lib.hid hr3
      have HA3 := Lib.hid hb3
      clear hown hr3 hb3
      go_wp2
      go_ret
      exact ⟨W ++ [s.extract f s.size], A3, c3, rfl, HS2.out, fun x hx => by rw [List.mem_append, List.mem_singleton] at hx; rcases hx with hx | rfl; exact HZ.out x hx; rw [ByteArray.size_extract]; omega, HR.out, HA3.out, HO5.out.to_below (Nat.le_refl _) (Nat.le_refl _)⟩
end Go.Proofs.YtgfobchpkjpiiaaDoor
