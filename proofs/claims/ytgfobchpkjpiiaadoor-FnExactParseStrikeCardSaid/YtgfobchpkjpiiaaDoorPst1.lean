/-
  A strike parsed: the join of whole numbers, plain laws.
-/
import Derived.Test.YtgfobchpkjpiiaaDoorPrs5
import Derived.Test.YtgfobchpkjpiiaaDoorTxt4
import Derived.Lib.ItoaLen
import Derived.Lib.ItoaMem
namespace Go.Proofs.YtgfobchpkjpiiaaDoor
open Go.RowKit
set_option linter.unusedVariables false
attribute [local go_sem ↓] Go.wp_at_zero Go.wp_at_succ

@[irreducible] def numI (n : Int) : ByteArray := ⟨(Lib.itoa n).toArray⟩
theorem numI_eq (n : Int) : numI n = ⟨(Lib.itoa n).toArray⟩ := by unfold numI; rfl
theorem numI_bytes (n : Int) : (numI n).data.toList = Lib.itoa n := by rw [numI_eq]
def strI (L : List Int) : List Value := L.map (fun x => Value.string (numI x))
@[irreducible] def jnI (L : List Int) (sep : ByteArray) : ByteArray := ⟨(Lib.join (L.map Lib.itoa) sep.data.toList).toArray⟩
theorem jnI_eq (L : List Int) (sep : ByteArray) : jnI L sep = ⟨(Lib.join (L.map Lib.itoa) sep.data.toList).toArray⟩ := by unfold jnI; rfl
theorem jnI_nat (L : List Nat) (sep : ByteArray) : jnI (natL L) sep = jnS L sep := by
  rw [jnI_eq, jnS_eq]
  unfold natL
  rw [List.map_map]
  have e : L.map (Lib.itoa ∘ fun x : Nat => (x : Int)) = L.map Lib.decDigits := List.map_congr_left fun x _ => Lib.itoa_nonneg x
  rw [e]
theorem strI_snoc {L : List Int} {j : Nat} {x : Int} (h : L[j]? = some x) : strI (L.take (j + 1)) = strI (L.take j) ++ [.string (numI x)] := by
  unfold strI
  rw [take_snoc h, List.map_append]
  rfl
theorem tailI_len (sep : List UInt8) (hs : sep.length ≤ 10) : ∀ (r : List Int), (∀ x ∈ r, I64 x) → (Lib.joinTail sep (r.map Lib.itoa)).length ≤ 32 * r.length
  | [], _ => by simp [Lib.joinTail]
  | x :: r, h => by
    have ih := tailI_len sep hs r (fun y hy => h y (List.mem_cons_of_mem _ hy))
    have hx := Lib.itoa_length_le x (h x (List.mem_cons_self ..)).1 (h x (List.mem_cons_self ..)).2
    simp only [Lib.joinTail, List.map_cons, List.flatten_cons, List.length_append, List.length_cons] at ih ⊢
    omega
theorem joinI_len (sep : List UInt8) (hs : sep.length ≤ 10) (L : List Int) (h : ∀ x ∈ L, I64 x) : (Lib.join (L.map Lib.itoa) sep).length ≤ 32 * L.length := by
  cases L with
  | nil => simp [Lib.join_nil]
  | cons x r =>
    rw [List.map_cons, Lib.join_cons, List.length_append]
    have hx := Lib.itoa_length_le x (h x (List.mem_cons_self ..)).1 (h x (List.mem_cons_self ..)).2
    have := tailI_len sep hs r (fun y hy => h y (List.mem_cons_of_mem _ hy))
    rw [List.length_cons]
    omega
theorem itoaI_any (n : Int) (hn : I64 n) (w : World) (ht : Lib.TabIs Tryd.prog w "internal/strconv.uint64pow10" .u64 Lib.pow10Tab) :
    Calls Tryd.prog 57 #[.int .i64 n] w fun e w' => e = .returned (.string (numI n)) ∧ Below w.heap.size w w' := by
  refine (Tryd.strconv_Itoa n hn.1 hn.2 w ht).mono ?_
  rintro e w' ⟨rfl, k, os, rfl⟩
  exact ⟨by rw [numI_eq], below_growN w k os⟩
set_option maxHeartbeats 2000000 in
theorem joinI_any (A : Option Addr) (n c : Nat) (L : List Int) (sep : ByteArray) (w : World) (hr : Rd cI 1 w w.heap.size A n L) (hn0 : 0 < n) (hn : n ≤ 100) (hx : ∀ x ∈ L, I64 x) (hs : sep.size ≤ 10)
    (ht : Lib.TabIs Tryd.prog w "internal/strconv.uint64pow10" .u64 Lib.pow10Tab) :
    Calls Tryd.prog 43 #[.slice A n c, .string sep] w fun e w' => e = .returned (.string (jnI L sep)) ∧ Below w.heap.size w w' := by
  have hl : L.length = n := hr.1
  have HR := Lib.hid hr
  have HX := Lib.hid hx
  have HT := Lib.hid ht
  obtain ⟨i0, hi0, hi1, hi2, hi3⟩ := info_parts infoS
  have hll : (Lib.join (L.map Lib.itoa) sep.data.toList).length ≤ 32 * L.length := joinI_len _ (by have e : sep.data.toList.length = sep.size := Array.length_toList; omega) L hx
  have HLL := Lib.hid hll
  clear hr hx ht hll
  go_enter Tryd.func43, Tryd.ntmps43
  go_wp2
  go_loopw [5, 11] (fun s i wr => ∃ j : Nat, j ≤ n ∧ i = .int .i64 j ∧ wr.ownsRow w.heap.size 9 1 s j (strI (L.take j)) ∧ Below w.heap.size w wr) (fun _ i _ => n - (intOf i).toNat)
  case atStart => exact ⟨0, Nat.zero_le _, rfl, own_empty (heap_alloc_new w _) (Nat.le_refl _), bl_alloc (Below.refl _ _) _⟩
  case round =>
    obtain ⟨j, hj, rfl, ho, hbj⟩ := hrel
    have HO := Lib.hid ho
    have BJ := Lib.hid hbj
    have hsz := hbj.size
    by_cases hlt : j < n
    · obtain ⟨bo, offo, y, rfl, hbB, hy, hci⟩ := (HR.out.below hbj).atI hlt
      have HY := Lib.hid (strI_snoc hy)
      have HI := Lib.hid (itoaI_any y (HX.out y (List.mem_of_getElem? hy)) wr (tab_below HT.out hbj))
      have hb0 : bo < wr.heap.size := by omega
      clear hbj ho hy
      go_wp2_with (go_at_call 57; refine HI.out.mono ?_; rintro e w3 ⟨rfl, hb⟩; have HB3 := Lib.hid hb; clear hb; refine Hid.out ?_)
      refine Lib.hid ?_
      have hs3 := HB3.out.size
      have HO3 := Lib.hid (own_below HO.out HB3.out)
      have BJ3 := Lib.hid (BJ.out.trans (HB3.out.mono hsz))
      go_wp2_with (at_builtin; refine wpList_append_own_at _ rfl _ _ 85 rfl w.heap.size 9 i0 (.string ⟨#[]⟩) 1 16 Tryd.underlying85 hi0 hi1 hi2 hi3 rfl (by decide) _ _ _ rfl ((HO3.out.alloc _)) ⟨w3.heap.size, 0, none⟩ 1 1 [.string (numI y)] rfl rfl ?c1 ?c2 ?c3 ?c4 ?c5 ?_)
      case c1 => exact cell_one_new _ _ _
      case c2 => first | rfl | (intro u hu; simp at hu; subst hu; rfl)
      case c3 => unfold maxLen; omega
      case c4 => omega
      case c5 => simp; omega
      intro v1 w5 hown5 hg5 _ hat5
      have HO5 := Lib.hid hown5
      have HB5 := Lib.hid (below_growS BJ3.out HO3.out hg5 (Nat.le_refl _) (by omega))
      clear hown5 hg5 hat5
      go_wp2
      go_roundw
      case rel => exact ⟨j + 1, by omega, by go_num, by rw [HY.out]; exact HO5.out, HB5.out⟩
      case measure => simp [intOf]; omega
    · have hjn : j = n := by omega
      rw [hjn, show L.take n = L from List.take_of_length_le (by omega)] at HO
      rcases HO.out.2 with ⟨_, h2⟩ | ⟨g, cap, cur, rfl, hg, hgl, hnc, hcm, hcs, _⟩
      · omega
      · have hc := HO.out.cells (g := g) rfl
        have hgs : g < wr.heap.size := (HO.out.lt g rfl).2
        have HJ := Lib.hid (Tryd.strings_Join g 0 cap (L.map numI) sep wr (fun i x hx => by
          rw [List.getElem?_map] at hx
          rcases hy : L[i]? with _ | y
          · rw [hy] at hx; cases hx
          · rw [hy] at hx; cases hx
            have := hc i (.string (numI y)) (by unfold strI; rw [List.getElem?_map, hy]; rfl)
            by_cases hi : i = 0
            · subst hi; simpa [Addr.add] using this
            · simpa [Addr.add, hi] using this) hgs (by simp; omega) (by simp; omega) (by
          have e : (L.map numI).map (·.data.toList) = L.map Lib.itoa := by rw [List.map_map]; exact List.map_congr_left fun y _ => numI_bytes y
          rw [e]; have := HLL.out; omega))
        have e : (L.map numI).map (·.data.toList) = L.map Lib.itoa := by rw [List.map_map]; exact List.map_congr_left fun y _ => numI_bytes y
        rw [e, List.length_map, hl, ← jnI_eq] at HJ
        subst hjn
        clear hc hbj ho e hgl hcs
        go_wp2_with (go_at_call 62; refine HJ.out.mono ?_; rintro e w3 ⟨rfl, hb⟩; have HB3 := Lib.hid hb; clear hb)
        go_ret
        exact ⟨rfl, BJ.out.trans (HB3.out.mono hsz)⟩
set_option maxHeartbeats 400000 in
theorem maOf_get (g off n c : Nat) (x0 x1 x2 x3 x4 : Int) (w : World) (hg : g < w.heap.size) (hn : 5 ≤ n) (h0 : w.cell? ⟨g, off, none⟩ = some (.int .i64 x0)) (h1 : w.cell? ⟨g, off + 1, none⟩ = some (.int .i64 x1)) (h2 : w.cell? ⟨g, off + 2, none⟩ = some (.int .i64 x2)) (h3 : w.cell? ⟨g, off + 3, none⟩ = some (.int .i64 x3)) (h4 : w.cell? ⟨g, off + 4, none⟩ = some (.int .i64 x4)) :
    Calls Tryd.prog 68 #[.slice (some ⟨g, off, none⟩) n c] w fun e w' => e = .returned (.agg #[.int .i64 x0, .int .i64 x1, .int .i64 x2, .int .i64 x3, .int .i64 x4]) ∧ Below w.heap.size w w' := by
  have hne : g ≠ w.heap.size := by omega
  have hne' : w.heap.size ≠ g := by omega
  have i0 : (0 : Int) < (n : Int) := by omega
  have j0 : 0 < n := by omega
  have i1 : (1 : Int) < (n : Int) := by omega
  have i2 : (2 : Int) < (n : Int) := by omega
  have i3 : (3 : Int) < (n : Int) := by omega
  have i4 : (4 : Int) < (n : Int) := by omega
  go_enter Tryd.func68, Tryd.ntmps68
  go_wp2_with fail
  go_region_held3 (fun w' => w'.cell? ⟨g, off, none⟩ = some (.int .i64 x0) ∧ w'.cell? ⟨g, off + 1, none⟩ = some (.int .i64 x1) ∧ w'.cell? ⟨g, off + 2, none⟩ = some (.int .i64 x2) ∧ w'.cell? ⟨g, off + 3, none⟩ = some (.int .i64 x3) ∧ w'.cell? ⟨g, off + 4, none⟩ = some (.int .i64 x4)) (go_keep) (fail)
  go_wp2
  exact bodyPost_ret (v := .agg #[.int .i64 x0, .int .i64 x1, .int .i64 x2, .int .i64 x3, .int .i64 x4]) (by simp [results, Tryd.results68, go_sem]) rfl ⟨rfl, by repeat (first | (with_reducible exact Below.refl _ _) | (with_reducible assumption) | (with_reducible refine bl_alloc ?_ _) | (with_reducible refine bl_drew ?_) | (with_reducible refine bl_drewN ?_ _) | ((with_reducible refine bl_set ?_ ?hb _); (case hb => first | (simp; done) | omega | (simp; omega))) | (with_reducible refine bl_trans ?_ (by assumption)))⟩
set_option maxHeartbeats 400000 in
theorem strikeOf_get (g off n c : Nat) (x0 x1 x2 x3 x4 : Int) (w : World) (hg : g < w.heap.size) (hn : 5 ≤ n) (h0 : w.cell? ⟨g, off, none⟩ = some (.int .i64 x0)) (h1 : w.cell? ⟨g, off + 1, none⟩ = some (.int .i64 x1)) (h2 : w.cell? ⟨g, off + 2, none⟩ = some (.int .i64 x2)) (h3 : w.cell? ⟨g, off + 3, none⟩ = some (.int .i64 x3)) (h4 : w.cell? ⟨g, off + 4, none⟩ = some (.int .i64 x4)) :
    Calls Tryd.prog 69 #[.slice (some ⟨g, off, none⟩) n c] w fun e w' => e = .returned (.agg #[.int .i64 x0, .int .i64 x1, .int .i64 x2, .int .i64 x3, .int .i64 x4]) ∧ Below w.heap.size w w' := by
  have hne : g ≠ w.heap.size := by omega
  have hne' : w.heap.size ≠ g := by omega
  have i0 : (0 : Int) < (n : Int) := by omega
  have j0 : 0 < n := by omega
  have i1 : (1 : Int) < (n : Int) := by omega
  have i2 : (2 : Int) < (n : Int) := by omega
  have i3 : (3 : Int) < (n : Int) := by omega
  have i4 : (4 : Int) < (n : Int) := by omega
  go_enter Tryd.func69, Tryd.ntmps69
  go_wp2_with fail
  go_region_held3 (fun w' => w'.cell? ⟨g, off, none⟩ = some (.int .i64 x0) ∧ w'.cell? ⟨g, off + 1, none⟩ = some (.int .i64 x1) ∧ w'.cell? ⟨g, off + 2, none⟩ = some (.int .i64 x2) ∧ w'.cell? ⟨g, off + 3, none⟩ = some (.int .i64 x3) ∧ w'.cell? ⟨g, off + 4, none⟩ = some (.int .i64 x4)) (go_keep) (fail)
  go_wp2
  exact bodyPost_ret (v := .agg #[.int .i64 x0, .int .i64 x1, .int .i64 x2, .int .i64 x3, .int .i64 x4]) (by simp [results, Tryd.results69, go_sem]) rfl ⟨rfl, by repeat (first | (with_reducible exact Below.refl _ _) | (with_reducible assumption) | (with_reducible refine bl_alloc ?_ _) | (with_reducible refine bl_drew ?_) | (with_reducible refine bl_drewN ?_ _) | ((with_reducible refine bl_set ?_ ?hb _); (case hb => first | (simp; done) | omega | (simp; omega))) | (with_reducible refine bl_trans ?_ (by assumption)))⟩

/-! ### plain -/
def stkV (a b c d f : Int) : (Int × Int × Int × Int × Int) × Bool := if strikeB a b c d f then ((a, b, c, d, f), true) else ((0, 0, 0, 0, 0), false)
theorem stk_no {a b c d f : Int} (h : strikeB a b c d f = false) : stkV a b c d f = ((0, 0, 0, 0, 0), false) := by unfold stkV; rw [if_neg (by rw [h]; decide)]
theorem stk_yes {a b c d f : Int} (h : strikeB a b c d f = true) : stkV a b c d f = ((a, b, c, d, f), true) := by unfold stkV; rw [if_pos h]
def ps5 : List (List UInt8) → (Int × Int × Int × Int × Int) × Bool
  | [x, y, z, u, t] => stkV (rdV 6 x) (rdV 6 y) (rdV 6 z) (rdV 6 u) (rdV 6 t)
  | _ => ((0, 0, 0, 0, 0), false)
theorem ps5_out {l : List (List UInt8)} (h : l.length ≠ 5) : ps5 l = ((0, 0, 0, 0, 0), false) := by
  rcases l with _ | ⟨x, _ | ⟨y, _ | ⟨z, _ | ⟨u, _ | ⟨t, _ | ⟨e, l⟩⟩⟩⟩⟩⟩ <;> first | rfl | exact absurd rfl h
theorem five {α : Type} {l : List α} (h : l.length = 5) : ∃ x y z u t, l = [x, y, z, u, t] := by
  rcases l with _ | ⟨x, _ | ⟨y, _ | ⟨z, _ | ⟨u, _ | ⟨t, _ | ⟨e, l⟩⟩⟩⟩⟩⟩ <;> first | exact ⟨_, _, _, _, _, rfl⟩ | simp at h
/-- s is the text of a strike -/
def YesK (s : ByteArray) (a b c d f : Nat) : Prop := strikeB a b c d f = true ∧ s = jnS [a, b, c, d, f] ⟨#[47]⟩
theorem YesK.bytes {s : ByteArray} {a b c d f : Nat} (h : YesK s a b c d f) : s.data.toList = Lib.join ([a, b, c, d, f].map Lib.decDigits) [47] := by rw [h.2, jnS_eq]
theorem dec3 {n : Nat} (h : n ≤ 999) : (Lib.decDigits n).length ≤ 3 := dec_len 2 n (by omega)
theorem ps_yes {s : ByteArray} {a b c d f : Nat} (h : YesK s a b c d f) : ps5 (spl 47 [] s.data.toList) = (((a : Int), (b : Int), (c : Int), (d : Int), (f : Int)), true) := by
  have hb := h.bytes
  obtain ⟨hS, _⟩ := h
  obtain ⟨h1, h2, h3, h4, h5⟩ := strike_iff.1 hS
  have e : spl 47 [] s.data.toList = [Lib.decDigits a, Lib.decDigits b, Lib.decDigits c, Lib.decDigits d, Lib.decDigits f] := by
    rw [hb]
    exact spl_of_join (b := 47) (w := Lib.decDigits a) (W := [Lib.decDigits b, Lib.decDigits c, Lib.decDigits d, Lib.decDigits f]) (no45 (L := [a, b, c, d, f]) (by decide))
  have d1 := dec3 (n := a) (by omega)
  have d2 := dec3 (n := b) (by omega)
  have d3 := dec3 (n := c) (by omega)
  have d4 := dec3 (n := d) (by omega)
  have d5 := dec3 (n := f) (by omega)
  rw [e, ps5, rdV_of (by omega), rdV_of (by omega), rdV_of (by omega), rdV_of (by omega), rdV_of (by omega)]
  exact stk_yes hS
theorem ps_no {s : ByteArray} (h : ∀ a b c d f, ¬ YesK s a b c d f) : ps5 (spl 47 [] s.data.toList) = ((0, 0, 0, 0, 0), false) := by
  by_cases hl : (spl 47 [] s.data.toList).length = 5
  · obtain ⟨x, y, z, u, t, he⟩ := five hl
    have hj := spl_join 47 s.data.toList []
    rw [he, List.nil_append] at hj
    rw [he, ps5]
    rcases hm : strikeB (rdV 6 x) (rdV 6 y) (rdV 6 z) (rdV 6 u) (rdV 6 t) with _ | _
    · exact stk_no hm
    · exfalso
      obtain ⟨a, b, c, d, f, e1, e2, e3, e4, e5, _⟩ := nat5 hm
      rw [e1, e2, e3, e4, e5] at hm
      refine h a b c d f ⟨hm, bytes_ext2 (a := s) (b := jnS [a, b, c, d, f] ⟨#[47]⟩) ?_⟩
      rw [jnS_eq, ← hj]
      show _ = Lib.join [Lib.decDigits _, Lib.decDigits _, Lib.decDigits _, Lib.decDigits _, Lib.decDigits _] [47]
      rw [rdV_inv e1, rdV_inv e2, rdV_inv e3, rdV_inv e4, rdV_inv e5]
  · exact ps5_out hl
theorem YesK.numR {s : ByteArray} {a b c d f : Nat} {R : List Int} (h : YesK s a b c d f) (hR : NumR (Lib.goFieldsP nonDig s) R) : R = natL [a, b, c, d, f] := by
  have hf := fields_join (b := 47) (by decide) (by decide) h.bytes
  obtain ⟨h1, h2, h3, h4, h5⟩ := strike_iff.1 h.1
  refine numR_yes (L := [a, b, c, d, f]) hf (fun x hx => ?_) hR
  have : (Lib.decDigits x).length ≤ 3 := by
    simp only [List.mem_cons, List.not_mem_nil, or_false] at hx
    rcases hx with rfl | rfl | rfl | rfl | rfl <;> exact dec3 (by omega)
  omega
theorem ps_len {s : ByteArray} {R : List Int} (hR : NumR (Lib.goFieldsP nonDig s) R) (h : R.length ≠ 5) : ps5 (spl 47 [] s.data.toList) = ((0, 0, 0, 0, 0), false) := ps_no fun a b c d f hy => h (by rw [hy.numR hR]; rfl)
theorem ps_other {s : ByteArray} {R : List Int} (hR : NumR (Lib.goFieldsP nonDig s) R) (h : ¬ jnI R ⟨#[47]⟩ = s) : ps5 (spl 47 [] s.data.toList) = ((0, 0, 0, 0, 0), false) := ps_no fun a b c d f hy => h (by rw [hy.numR hR, jnI_nat, hy.2])
theorem ps_bad {s : ByteArray} {p q r u t : Int} (hR : NumR (Lib.goFieldsP nonDig s) [p, q, r, u, t]) (h : strikeB p q r u t = false) : ps5 (spl 47 [] s.data.toList) = ((0, 0, 0, 0, 0), false) := ps_no fun a b c d f hy => by
  have e := hy.numR hR
  have e2 : [p, q, r, u, t] = [(a : Int), (b : Int), (c : Int), (d : Int), (f : Int)] := e
  simp only [List.cons.injEq, and_true] at e2
  obtain ⟨rfl, rfl, rfl, rfl, rfl⟩ := e2
  rw [hy.1] at h
  cases h
theorem ps_good {s : ByteArray} {p q r u t : Int} (h : strikeB p q r u t = true) (hj : jnI [p, q, r, u, t] ⟨#[47]⟩ = s) : ps5 (spl 47 [] s.data.toList) = ((p, q, r, u, t), true) := by
  obtain ⟨a, b, c, d, f, rfl, rfl, rfl, rfl, rfl, _⟩ := nat5 h
  exact ps_yes ⟨h, by rw [← hj]; exact jnI_nat [a, b, c, d, f] _⟩
theorem numR_i64 {fs : List ByteArray} {R : List Int} (h : NumR fs R) : ∀ x ∈ R, I64 x := by
  rcases h with h | ⟨rfl, _⟩
  · exact okV_bd h
  · intro x hx; cases hx
/-- a strike and a bool -/
def RetK (v : (Int × Int × Int × Int × Int) × Bool) (w : World) (e : Ending) (w' : World) : Prop := e = .returned (.tuple #[.agg #[.int .i64 v.1.1, .int .i64 v.1.2.1, .int .i64 v.1.2.2.1, .int .i64 v.1.2.2.2.1, .int .i64 v.1.2.2.2.2], .bool v.2]) ∧ Below w.heap.size w w'
/-- a strike of zeros at block g -/
def ZC (W : World) (g : Nat) : Prop := (∀ k, k < 5 → W.cell? ⟨g, k, none⟩ = some (.int .i64 0)) ∧ (∀ o, W.frozen? ⟨g, o, none⟩ = false) ∧ g < W.heap.size
theorem ZC.below {W W' : World} {g : Nat} (h : ZC W g) (hb : Below W.heap.size W W') : ZC W' g :=
  ⟨fun k hk => (hb.cell (p := ⟨g, k, none⟩) h.2.2).trans (h.1 k hk), fun o => (hb.frozen (p := ⟨g, o, none⟩) h.2.2).trans (h.2.1 o), Nat.lt_of_lt_of_le h.2.2 hb.size⟩
theorem zc_new (w : World) (t : TypeId) : ZC (w.alloc (.cells #[.int .i64 0, .int .i64 0, .int .i64 0, .int .i64 0, .int .i64 0] t)) w.heap.size := by
  refine ⟨fun k hk => ?_, fun o => by simp, by simp⟩
  have : k = 0 ∨ k = 1 ∨ k = 2 ∨ k = 3 ∨ k = 4 := by omega
  rcases this with rfl | rfl | rfl | rfl | rfl <;> simp
end Go.Proofs.YtgfobchpkjpiiaaDoor
