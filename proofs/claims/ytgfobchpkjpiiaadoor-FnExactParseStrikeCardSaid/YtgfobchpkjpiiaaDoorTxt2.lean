/-
  Texts: strings put together; the implementation's join.
-/
import Derived.Test.YtgfobchpkjpiiaaDoorTxt1
namespace Go.Proofs.YtgfobchpkjpiiaaDoor
open Go.RowKit
set_option linter.unusedVariables false
attribute [local go_sem ↓] Go.wp_at_zero Go.wp_at_succ

@[irreducible] def catS (a b : ByteArray) : ByteArray := a ++ b
theorem catS_size (a b : ByteArray) : (catS a b).size = a.size + b.size := by unfold catS; exact ByteArray.size_append
theorem catS_bytes (a b : ByteArray) : (catS a b).data.toList = a.data.toList ++ b.data.toList := by
  unfold catS
  rw [ByteArray.data_append]
  simp
theorem bytes_ext2 {a b : ByteArray} (h : a.data.toList = b.data.toList) : a = b := by
  apply ByteArray.ext
  exact Array.toList_inj.1 h
def Fit (a b : ByteArray) : Prop := a.size + b.size ≤ 9223372036854775807
theorem run_cat {P : Program} {w : World} {a b : ByteArray} (h : Fit a b) : (Op.stringOp .add a b).run P w = .ok (.string (catS a b)) w := by
  unfold catS
  exact run_string_add_sum w a b h
theorem fit_of {a b : ByteArray} {p q : Nat} (ha : a.size ≤ p) (hb : b.size ≤ q) (h : p + q ≤ 9223372036854775807) : Fit a b := by unfold Fit; omega
theorem numS_bytes (n : Nat) : (numS n).data.toList = Lib.decDigits n := by rw [numS_eq]
theorem tab_below {w w' : World} {zs : List Int} (h : Lib.TabIs Tryd.prog w "internal/strconv.uint64pow10" .u64 zs) (hb : Below w.heap.size w w') : Lib.TabIs Tryd.prog w' "internal/strconv.uint64pow10" .u64 zs := by
  unfold Lib.TabIs World.var? at *
  cases hg : Tryd.prog.globalNamed "internal/strconv.uint64pow10" with
  | none => simp [hg] at h
  | some g =>
    simp only [hg, Option.bind_some] at h ⊢
    have hlt : g < w.heap.size := by
      rcases Nat.lt_or_ge g w.heap.size with h' | h'
      · exact h'
      · rw [Array.getElem?_eq_none h'] at h; simp at h
    rw [hb.block g hlt]
    exact h
theorem infoS : (Tryd.prog.info? 9).map (fun i => (i.zero, i.size, i.bytes)) = some (some (.string ⟨#[]⟩), 1, 16) := by kernel_rfl
def natL (L : List Nat) : List Int := L.map (fun x : Nat => (x : Int))
def strL (L : List Nat) : List Value := L.map (fun x => Value.string (numS x))
@[irreducible] def jnS (L : List Nat) (sep : ByteArray) : ByteArray := ⟨(Lib.join (L.map Lib.decDigits) sep.data.toList).toArray⟩
theorem jnS_eq (L : List Nat) (sep : ByteArray) : jnS L sep = ⟨(Lib.join (L.map Lib.decDigits) sep.data.toList).toArray⟩ := by unfold jnS; rfl
theorem tail_len (sep : List UInt8) (hs : sep.length ≤ 10) : ∀ (r : List Nat), (∀ x ∈ r, x < 1000000000000) → (Lib.joinTail sep (r.map Lib.decDigits)).length ≤ 22 * r.length
  | [], _ => by simp [Lib.joinTail]
  | x :: r, h => by
    have ih := tail_len sep hs r (fun y hy => h y (List.mem_cons_of_mem _ hy))
    have hx := dec_len 11 x (by have := h x (List.mem_cons_self ..); omega)
    simp only [Lib.joinTail, List.map_cons, List.flatten_cons, List.length_append, List.length_cons] at ih ⊢
    omega
theorem join_len (sep : List UInt8) (hs : sep.length ≤ 10) (L : List Nat) (h : ∀ x ∈ L, x < 1000000000000) : (Lib.join (L.map Lib.decDigits) sep).length ≤ 22 * L.length := by
  cases L with
  | nil => simp [Lib.join_nil]
  | cons x r =>
    rw [List.map_cons, Lib.join_cons, List.length_append]
    have hx := dec_len 11 x (by have := h x (List.mem_cons_self ..); omega)
    have := tail_len sep hs r (fun y hy => h y (List.mem_cons_of_mem _ hy))
    rw [List.length_cons]
    omega
theorem strL_snoc {L : List Nat} {j x : Nat} (h : L[j]? = some x) : strL (L.take (j + 1)) = strL (L.take j) ++ [.string (numS x)] := by
  unfold strL
  rw [take_snoc h, List.map_append]
  rfl
theorem below_growS {B base : Nat} {a w w' : World} {v : Value} {n : Nat} {zs : List Value} {e : TypeId} {o : Obj} (h : Below B a w) (hv : w.ownsRow base e 1 v n zs) (hg : (w.alloc o).grownBy w' v.ownBlock) (hB : B ≤ base) (hw : B ≤ w.heap.size) : Below B a w' :=
  (h.alloc hw o).grown hg (by simp; omega) (fun k hk => Nat.le_trans hB (hv.lt k hk).1)
set_option maxHeartbeats 2000000 in
theorem join_any (A : Option Addr) (n c : Nat) (L : List Nat) (sep : ByteArray) (w : World) (hr : Rd cI 1 w w.heap.size A n (natL L)) (hn0 : 0 < n) (hn : n ≤ 100) (hx : ∀ x ∈ L, x < 1000000000000) (hs : sep.size ≤ 10)
    (ht : Lib.TabIs Tryd.prog w "internal/strconv.uint64pow10" .u64 Lib.pow10Tab) :
    Calls Tryd.prog 43 #[.slice A n c, .string sep] w fun e w' => e = .returned (.string (jnS L sep)) ∧ Below w.heap.size w w' := by
  have hl : L.length = n := by have := hr.1; simpa [natL] using this
  have HR := Lib.hid hr
  have HX := Lib.hid hx
  have HT := Lib.hid ht
  obtain ⟨i0, hi0, hi1, hi2, hi3⟩ := info_parts infoS
  have hll : (Lib.join (L.map Lib.decDigits) sep.data.toList).length ≤ 22 * L.length := join_len _ (by have e : sep.data.toList.length = sep.size := Array.length_toList; omega) L hx
  have HLL := Lib.hid hll
  clear hr hx ht hll
  go_enter Tryd.func43, Tryd.ntmps43
  go_wp2
  go_loopw [5, 11] (fun s i wr => ∃ j : Nat, j ≤ n ∧ i = .int .i64 j ∧ wr.ownsRow w.heap.size 9 1 s j (strL (L.take j)) ∧ Below w.heap.size w wr) (fun _ i _ => n - (intOf i).toNat)
  case atStart => exact ⟨0, Nat.zero_le _, rfl, own_empty (heap_alloc_new w _) (Nat.le_refl _), bl_alloc (Below.refl _ _) _⟩
  case round =>
    obtain ⟨j, hj, rfl, ho, hbj⟩ := hrel
    have HO := Lib.hid ho
    have BJ := Lib.hid hbj
    have hsz := hbj.size
    by_cases hlt : j < n
    · obtain ⟨bo, offo, x, rfl, hbB, hik, hci⟩ := (HR.out.below hbj).atI hlt
      have hik' : ∃ y : Nat, L[j]? = some y ∧ x = (y : Int) := by
        unfold natL at hik
        rw [List.getElem?_map] at hik
        rcases hy : L[j]? with _ | y
        · rw [hy] at hik; cases hik
        · rw [hy] at hik; cases hik; exact ⟨y, rfl, rfl⟩
      obtain ⟨y, hy, rfl⟩ := hik'
      have HY := Lib.hid (strL_snoc hy)
      have HI := Lib.hid (itoa_any y (HX.out y (List.mem_of_getElem? hy)) wr (tab_below HT.out hbj))
      have hb0 : bo < wr.heap.size := by omega
      clear hbj ho hik hy
      go_wp2_with (go_at_call 57; refine HI.out.mono ?_; rintro e w3 ⟨rfl, hb⟩; have HB3 := Lib.hid hb; clear hb; refine Hid.out ?_)
      refine Lib.hid ?_
      have hs3 := HB3.out.size
      have HO3 := Lib.hid (own_below HO.out HB3.out)
      have BJ3 := Lib.hid (BJ.out.trans (HB3.out.mono hsz))
      go_wp2_with (at_builtin; refine wpList_append_own_at _ rfl _ _ 85 rfl w.heap.size 9 i0 (.string ⟨#[]⟩) 1 16 Tryd.underlying85 hi0 hi1 hi2 hi3 rfl (by decide) _ _ _ rfl (HO3.out.alloc _) ⟨w3.heap.size, 0, none⟩ 1 1 [.string (numS y)] rfl rfl ?c1 ?c2 ?c3 ?c4 ?c5 ?_)
      case c1 => exact cell_one_new _ _ _
      case c2 => first | rfl | (intro u hu; simp at hu; subst hu; rfl)
      case c3 => unfold maxLen; omega
      case c4 => omega
      case c5 => simp; omega
      intro v1 w5 hown5 hg5 _ hat5
      have HO5 := Lib.hid hown5
      have HB5 := Lib.hid (below_growS BJ3.out HO3.out hg5 (Nat.le_refl _) (by omega))
      clear hown5 hg5 hat5
      go_wp2
      go_roundw
      case rel => exact ⟨j + 1, by omega, by go_num, by rw [HY.out]; exact HO5.out, HB5.out⟩
      case measure => simp [intOf]; omega
    · have hjn : j = n := by omega
      rw [hjn, show L.take n = L from List.take_of_length_le (by omega)] at HO
      rcases HO.out.2 with ⟨_, h2⟩ | ⟨g, cap, cur, rfl, hg, hgl, hnc, hcm, hcs, _⟩
      · omega
      · have hc := HO.out.cells (g := g) rfl
        have hgs : g < wr.heap.size := (HO.out.lt g rfl).2
        have HJ := Lib.hid (Tryd.strings_Join g 0 cap (L.map numS) sep wr (fun i x hx => by
          rw [List.getElem?_map] at hx
          rcases hy : L[i]? with _ | y
          · rw [hy] at hx; cases hx
          · rw [hy] at hx; cases hx
            have := hc i (.string (numS y)) (by unfold strL; rw [List.getElem?_map, hy]; rfl)
            by_cases hi : i = 0
            · subst hi; simpa [Addr.add] using this
            · simpa [Addr.add, hi] using this) hgs (by simp; omega) (by simp; omega) (by
          have e : (L.map numS).map (·.data.toList) = L.map Lib.decDigits := by rw [List.map_map]; exact List.map_congr_left fun y _ => numS_bytes y
          rw [e]; have := HLL.out; omega))
        have e : (L.map numS).map (·.data.toList) = L.map Lib.decDigits := by rw [List.map_map]; exact List.map_congr_left fun y _ => numS_bytes y
        rw [e, List.length_map, hl, ← jnS_eq] at HJ
        subst hjn
        clear hc hbj ho e hgl hcs
        go_wp2_with (go_at_call 62; refine HJ.out.mono ?_; rintro e w3 ⟨rfl, hb⟩; have HB3 := Lib.hid hb; clear hb)
        go_ret
        exact ⟨rfl, BJ.out.trans (HB3.out.mono hsz)⟩
end Go.Proofs.YtgfobchpkjpiiaaDoor
