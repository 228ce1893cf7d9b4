/-
  The parsers' parts: contracts of numbersIn, l1Split, meRead and l1Read.
-/
import Derived.Test.YtgfobchpkjpiiaaDoorPrs0
import Derived.Test.YtgfobchpkjpiiaaDoorTxt4
namespace Go.Proofs.YtgfobchpkjpiiaaDoor
open Go.RowKit
set_option linter.unusedVariables false
attribute [local go_sem ↓] Go.wp_at_zero Go.wp_at_succ

/-! ### numbersIn -/
theorem wr_nil (w : World) (b0 : Nat) (A : Option Addr) : Wr w b0 A 0 [] := ⟨rfl, fun h => absurd h (by omega)⟩
def nonDig (x : Nat) : Bool := decide (x < 48) || decide (57 < x)
set_option maxHeartbeats 1000000 in
theorem pred_any (x : Nat) (hx : x ≤ 1114111) (w : World) : Calls Tryd.prog 86 #[.int .i32 x] w fun e w' => e = .returned (.bool (nonDig x)) ∧ Below w.heap.size w w' := by
  by_cases h1 : x < 48
  · have HE := Lib.hid (show nonDig x = true by unfold nonDig; rw [decide_eq_true h1]; rfl)
    have h : (x : Int) < 48 := by omega
    go_enter Tryd.func86, Tryd.ntmps86
    go_wp2
    go_ret
    exact ⟨ret_bool HE.out.symm, Below.refl _ _⟩
  · by_cases h2 : 57 < x
    · have HE := Lib.hid (show nonDig x = true by unfold nonDig; rw [decide_eq_true h2]; simp)
      have h : ¬ (x : Int) < 48 := by omega
      have h' : (57 : Int) < x := by omega
      go_enter Tryd.func86, Tryd.ntmps86
      go_wp2
      go_ret
      exact ⟨ret_bool HE.out.symm, Below.refl _ _⟩
    · have HE := Lib.hid (show nonDig x = false by unfold nonDig; rw [decide_eq_false h1, decide_eq_false h2]; rfl)
      have h : ¬ (x : Int) < 48 := by omega
      have h' : ¬ (57 : Int) < x := by omega
      go_enter Tryd.func86, Tryd.ntmps86
      go_wp2
      go_ret
      exact ⟨ret_bool HE.out.symm, Below.refl _ _⟩
theorem var_below {w w' : World} {n : String} {cs : Array Value} (h : w.var? Tryd.prog n = some cs) (hb : Below w.heap.size w w') : w'.var? Tryd.prog n = some cs := by
  unfold World.var? at *
  cases hg : Tryd.prog.globalNamed n with
  | none => simp [hg] at h
  | some g =>
    simp only [hg, Option.bind_some] at h ⊢
    have hlt : g < w.heap.size := by
      rcases Nat.lt_or_ge g w.heap.size with h' | h'
      · exact h'
      · rw [Array.getElem?_eq_none h'] at h; simp at h
    rw [hb.block g hlt]
    exact h
/-- the two errors of strconv are there -/
def Errs (w : World) : Prop := (∃ tp q, w.var? Tryd.prog "strconv.ErrRange" = some #[.iface tp q]) ∧ ∃ tp q, w.var? Tryd.prog "strconv.ErrSyntax" = some #[.iface tp q]
theorem Errs.below {w w' : World} (h : Errs w) (hb : Below w.heap.size w w') : Errs w' := by
  obtain ⟨⟨tp, q, h1⟩, tp2, q2, h2⟩ := h
  exact ⟨⟨tp, q, var_below h1 hb⟩, tp2, q2, var_below h2 hb⟩
theorem atoi_ok {f : ByteArray} {v : Int} (hs : f.size ≤ 1048576) (h : Lib.atoiAll f.data.toList = .ok v) (w : World) : Calls Tryd.prog 87 #[.string f] w fun e w' => e = .returned (.tuple #[.int .i64 v, .nilIface]) ∧ Below w.heap.size w w' := by
  refine (Tryd.strconv_Atoi_ok f (by omega) v h w).mono ?_
  rintro e w' ⟨rfl, rfl | ⟨t, rfl⟩⟩
  · exact ⟨rfl, Below.refl _ _⟩
  · exact ⟨rfl, Lib.bytesWorld_below _ _ _⟩
theorem atoi_bad {f : ByteArray} (hs : f.size ≤ 1048576) (h : ∀ v, Lib.atoiAll f.data.toList ≠ .ok v) (w : World) (he : Errs w) : Calls Tryd.prog 87 #[.string f] w fun e w' => (∃ v T N, e = .returned (.tuple #[.int .i64 v, .iface T (.pointer (some ⟨N, 0, none⟩))])) ∧ Below w.heap.size w w' := by
  obtain ⟨⟨tp, q, h1⟩, tp2, q2, h2⟩ := he
  rcases ha : Lib.atoiAll f.data.toList with v | _ | _
  · exact absurd ha (h v)
  · have c := Any.strconv_Atoi_syntax_var Tryd.laysC172 f (by omega) ha tp2 q2 w h2
    refine Calls.mono c ?_
    rintro e w' ⟨N, rfl, _, _, hb⟩
    exact ⟨⟨_, _, N, rfl⟩, hb⟩
  · have c := Any.strconv_Atoi_range_var Tryd.laysC172 f (by omega) ha tp q w h1
    refine Calls.mono c ?_
    rintro e w' ⟨N, rfl, _, _, hb⟩
    exact ⟨⟨_, _, N, rfl⟩, hb⟩
def okV (fs : List ByteArray) (vs : List Int) : Prop := fs.map (fun f => Lib.atoiAll f.data.toList) = vs.map Lib.NumEnd.ok
def NumR (fs : List ByteArray) (R : List Int) : Prop := okV fs R ∨ (R = [] ∧ ∃ f ∈ fs, ∀ v, Lib.atoiAll f.data.toList ≠ .ok v)
theorem okV_snoc {fs : List ByteArray} {j : Nat} {f : ByteArray} {vs : List Int} {v : Int} (h : okV (fs.take j) vs) (hf : fs[j]? = some f) (hv : Lib.atoiAll f.data.toList = .ok v) : okV (fs.take (j + 1)) (vs ++ [v]) := by
  unfold okV at *
  rw [take_snoc hf, List.map_append, List.map_append, h]
  simp [hv]
theorem okV_len {fs : List ByteArray} {vs : List Int} (h : okV fs vs) : vs.length = fs.length := by
  have := congrArg List.length h
  simpa using this.symm
theorem okV_bd {fs : List ByteArray} {vs : List Int} (h : okV fs vs) : ∀ v ∈ vs, I64 v := by
  intro v hv
  have hm : Lib.NumEnd.ok v ∈ vs.map Lib.NumEnd.ok := List.mem_map_of_mem hv
  rw [← h] at hm
  obtain ⟨f, _, hf⟩ := List.mem_map.1 hm
  exact Lib.atoiAll_bounds hf
theorem field_size {p : Nat → Bool} {s f : ByteArray} (h : f ∈ Lib.goFieldsP p s) : f.size ≤ s.size := by
  unfold Lib.goFieldsP at h
  obtain ⟨x, _, rfl⟩ := List.mem_map.1 h
  rw [ByteArray.size_extract]
  omega
set_option maxHeartbeats 4000000 in
theorem numbersIn_any (s : ByteArray) (hs : s.size ≤ 1048576) (w : World) (he : Errs w) :
    Calls Tryd.prog 66 #[.string s] w fun e w' => ∃ R A c, e = .returned (.slice A R.length c) ∧ NumR (Lib.goFieldsP nonDig s) R ∧ Wr w' w.heap.size A R.length R ∧ Below w.heap.size w w' := by
  obtain ⟨fs, hfs⟩ : ∃ fs, Lib.goFieldsP nonDig s = fs := ⟨_, rfl⟩
  have HE := Lib.hid he
  have hflen : fs.length ≤ 1048577 := by rw [← hfs]; have := fields_len nonDig s; omega
  have HSZ := Lib.hid (show ∀ f ∈ fs, f.size ≤ 1048576 by intro f hf; rw [← hfs] at hf; have := field_size hf; omega)
  have HFF := Lib.hid (fun (W : World) => Tryd.strings_FieldsFunc_grows 86 #[] (enters_of Tryd.func86 (by kernel_rfl) rfl) nonDig s W (by omega) (fun W' x hx _ => pred_any x hx W'))
  rw [hfs] at HFF
  rw [hfs]
  obtain ⟨i0, hi0, hi1, hi2, hi3⟩ := info_parts infoI
  clear he hfs
  go_enter Tryd.func66, Tryd.ntmps66
  go_wp2_with fail
  refine (HFF.out _).mono ?_
  rintro e w2 ⟨A, rfl, hA, hown, hb⟩
  have hg0 : w2.heap[w.heap.size]? = some (.cells #[] 3 (0, 0)) := (hb.block w.heap.size (by simp)).trans (heap_alloc_new w _)
  have hA1 : w.heap.size < A := by simp at hA; omega
  have hAL : A < w2.heap.size := (hown.lt A rfl).2
  have hcf := hown.cells (g := A) rfl
  have HCF := Lib.hid (show ∀ (j : Nat) (f : ByteArray), fs[j]? = some f → w2.cell? ⟨A, j, none⟩ = some (.string f) from fun j f hf => by
    have := hcf j (.string f) (by rw [List.getElem?_map, hf]; rfl)
    by_cases hj : j = 0
    · subst hj; simpa [Addr.add] using this
    · simpa [Addr.add, hj] using this)
  have HB2 := Lib.hid (bl_trans (bl_alloc (Below.refl w.heap.size w) _) hb)
  have HO2 : OwnG 3 1 w.heap.size w2 w.heap.size w2 (.slice (some ⟨w.heap.size, 0, none⟩) 0 0) 0 [] := OwnG.start hg0 (Nat.le_refl _)
  have hs2 := HB2.out.size
  clear hown hb hcf hA hg0
  go_wp2_with fail
  go_loopw [3, 12] (fun v i wr => ∃ (j : Nat) (vs : List Int), j ≤ fs.length ∧ i = .int .i64 j ∧ Hid (okV (fs.take j) vs) ∧ Hid (OwnG 3 1 w.heap.size w2 w.heap.size wr v vs.length (vs.map (Value.int .i64)))) (fun _ i _ => fs.length - (intOf i).toNat)
  case atStart => exact ⟨0, [], Nat.zero_le _, rfl, Lib.hid rfl, Lib.hid HO2⟩
  case round =>
    obtain ⟨j, vs, hj, rfl, HV, HO⟩ := hrel
    have hso := HO.out.gr.size
    have BJ := Lib.hid (HB2.out.trans (HO.out.to_below (Nat.le_refl _) (by omega)))
    by_cases hlt : j < fs.length
    · have hf : fs[j]? = some fs[j] := List.getElem?_eq_getElem hlt
      obtain ⟨f, hfe⟩ : ∃ f, fs[j] = f := ⟨_, rfl⟩
      rw [hfe] at hf
      have hfz := HSZ.out f (List.mem_of_getElem? hf)
      have hcj : wr.cell? ⟨A, j, none⟩ = some (.string f) := (HO.out.cell hAL (by omega) j).trans (HCF.out j f hf)
      have HF := Lib.hid hf
      clear hf hfe
      have g1 : (0 : Int) ≤ (j : Int) := by omega
      have g2 : (j : Int) < (fs.length : Int) := by omega
      by_cases hok : ∃ v, Lib.atoiAll f.data.toList = .ok v
      · obtain ⟨v, hv⟩ := hok
        have HAT := Lib.hid (atoi_ok hfz hv wr)
        have HV2 := Lib.hid (okV_snoc HV.out HF.out hv)
        have hlv := okV_len HV.out
        rw [List.length_take] at hlv
        clear hv
        have hfl : vs.length ≤ j := by omega
        go_wp2_with (go_at_call 87; refine HAT.out.mono ?_; rintro e w3 ⟨rfl, hb⟩; have HB3 := Lib.hid hb; clear hb; refine Hid.out ?_)
        refine Lib.hid ?_
        have HO3 := Lib.hid (HO.out.below HB3.out)
        go_wp2_with (at_builtin; refine wpList_append_own_at _ rfl _ _ 49 rfl w.heap.size 3 i0 (.int .i64 0) 1 8 Tryd.underlying49 hi0 hi1 hi2 hi3 rfl (by decide) _ _ _ rfl ((HO3.out.alloc _).own) ⟨w3.heap.size, 0, none⟩ 1 1 [.int .i64 (v)] rfl rfl ?zc1 ?zc2 ?zc3 ?zc4 ?zc5 ?_)
        case zc1 => exact cell_one_new _ _ _
        case zc2 => first | rfl | (intro u hu; simp at hu; subst hu; rfl)
        case zc3 => unfold maxLen; omega
        case zc4 => omega
        case zc5 => have := HO3.out.gr.size; simp; omega
        intro v2 w5 hown5 hg5 _ hat5
        have HO5 := Lib.hid (HO3.out.push hown5 hg5 (by simpa using hat5))
        clear hown5 hg5 hat5
        go_wp2
        go_roundw
        case rel => exact ⟨j + 1, vs ++ [v], by omega, by go_num, HV2, Lib.hid (by rw [List.length_append, List.map_append, show vs.length + [v].length = j + 1 by simp; omega]; exact HO5.out)⟩
        case measure => simp [intOf]; omega
      · have HBD := Lib.hid (atoi_bad hfz (fun v hv => hok ⟨v, hv⟩) wr (HE.out.below BJ.out))
        have HNB := Lib.hid (show ∃ f ∈ fs, ∀ v, Lib.atoiAll f.data.toList ≠ .ok v from ⟨f, List.mem_of_getElem? HF.out, fun v hv => hok ⟨v, hv⟩⟩)
        clear hok
        go_wp2_with (go_at_call 87; refine HBD.out.mono ?_; rintro e w3 ⟨⟨v, T, N, rfl⟩, hb⟩; have HB3 := Lib.hid hb; clear hb)
        go_ret
        exact ⟨[], _, _, rfl, .inr ⟨rfl, HNB.out⟩, wr_nil _ _ _, bl_alloc (bl_trans BJ.out HB3.out) _⟩
    · have hjn : j = fs.length := by omega
      have hV := HV.out
      rw [hjn, List.take_length] at hV
      obtain ⟨A3, c3, rfl, hw3⟩ := own_wr HO.out.own
      have HW3 := Lib.hid hw3
      have HVV := Lib.hid hV
      clear hw3 hV
      go_wp2
      go_ret
      exact ⟨vs, A3, c3, rfl, .inl HVV.out, HW3.out, BJ.out⟩
end Go.Proofs.YtgfobchpkjpiiaaDoor
