/-
  sort.SliceStable at 1 to 32 elements that rise: what it leaves is strictly rising by TT.
-/
import Derived.Test.YtblgeehdngejpaaSwp11
namespace Go.Proofs.Ytblgeehdngejpaa
open Go.RowKit Go.Lib Go.Sort Go.Shelf
set_option linter.unusedVariables false
variable {en : Int → Value}

noncomputable def siT : TypeInfo := (Try.prog.info? 22).get (by kernel_rfl)
noncomputable def siE : TypeInfo := (Try.prog.info? 3).get (by kernel_rfl)
theorem siK (n : Nat) (h2 : 2 ≤ n) : Lib.swapperK n siE 2 = 5 := by
  have a : siE.hasPointers = false := by kernel_rfl
  have b : siE.bytes = 8 := by kernel_rfl
  have c : (n == 0) = false := by simp; omega
  have d : (n == 1) = false := by simp; omega
  simp [Lib.swapperK, a, b, c, d]
theorem siT_info : Try.prog.info? 22 = some siT := by kernel_rfl
theorem siT_desc : siT.desc = .slice 3 := by kernel_rfl
theorem siT_packed : Try.prog.packed 22 = false := by kernel_rfl
theorem siE_info : Try.prog.info? 3 = some siE := by kernel_rfl
theorem siE_size : siE.size = 1 := by kernel_rfl
theorem swapper5 (n : Nat) (h2 : 2 ≤ n) : Try.prog.funcs.findIdx? (·.name == "internal/reflectlite" ++ ".Swapper$" ++ toString (swapperK n siE 2)) = some 24 := by rw [siK n h2]; kernel_rfl
theorem swapper2 : Try.prog.funcs.findIdx? (·.name == "internal/reflectlite" ++ ".Swapper$" ++ toString (swapperK 1 siE 2)) = some 21 := by kernel_rfl
theorem swap_of (args : Array Value) (W : World) : (callFunc 24 args).run Try.prog W = ((Extern.ReflectliteSwapper.swap true args).run Try.prog W).andThen fun v w' => .ok (.value v) w' :=
  run_callFunc_extern Try.func24 (by kernel_rfl) (by kernel_rfl) (by kernel_rfl) (e := Extern.ReflectliteSwapper.swap true) (by kernel_rfl) args W
set_option maxHeartbeats 1000000 in
theorem sort_some (lt : Int → Int → Bool) (hO : SWO lt) (g : Nat) (lb : Array Value) (h1 : ∀ x, (en x).oneCell' = true) (eg : ∀ args w, (callFunc g args).run Try.prog w = .ok (.enter g args) w) (blk off c n : Nat) (d : Array Int) (w : World) (hless : LessReads Try.prog g lb en lt blk off n w)
    (hH : Holds en w blk off d) (hblk : blk < w.heap.size) (hd : d.size = n) (h0 : 1 ≤ n) (h32 : n ≤ 32) (hr : ∀ p q, p < q → q < n → d[p]! < d[q]!) :
    Calls Try.prog 14 #[.iface 22 (.slice (some ⟨blk, off, none⟩) n c), .func (.func g) #[] lb] w fun e w' => e = .returned (.tuple #[]) ∧ ∃ d', SW en w blk off d' w' ∧ MgR lt 0 n d d' := by
  subst hd
  by_cases hn1 : d.size = 1
  · rw [hn1]
    refine (Any.sort_SliceStable_tiny Try.laysGt8 22 3 siT siE siT_info siT_desc siT_packed siE_info 2 (fun _ => by kernel_rfl) (some ⟨blk, off, none⟩) 1 c (Nat.le_refl _) 21 swapper2 (.func g) #[] lb w).mono ?_
    rintro e w' ⟨rfl, os, rfl⟩
    refine ⟨rfl, d, ⟨0, os, ?_⟩, MgR.refl (fun i j h1 h2 h3 => by omega)⟩
    unfold sortWorld
    exact congrArg (fun x => grow x os) (putRow_self en w blk off d hH).symm
  · by_cases h20 : d.size ≤ 20
    · refine (Any.sort_SliceStable_small Try.laysGt8 22 3 siT siE siT_info siT_desc siT_packed siE_info 2 (fun _ => by kernel_rfl) siE_size (fun _ => by kernel_rfl) en h1 lt g lb eg blk off c d (by omega) h20 24 (swapper5 _ (by omega)) true swap_of w hless hH hblk).mono ?_
      rintro e w' ⟨rfl, m, os, rfl⟩
      exact ⟨rfl, _, ⟨m, os, rfl⟩, ins_all hO (Nat.zero_le _) (Nat.le_refl _) (fun p q _ h2 h3 => hr p q h2 h3)⟩
    · refine Any.sort_SliceStable_of_stable Try.laysGt8 22 3 siT siE siT_info siT_desc siT_packed siE_info 2 (fun _ => by kernel_rfl) _ d.size c (by omega) 24 (swapper5 _ (by omega)) (.func g) #[] lb w _ ?_
      have hB : sliceBound Try.prog 3 siE 2 (some ⟨blk, off, none⟩) d.size c = #[.slice (some ⟨blk, off, none⟩) d.size c, typeHandle Try.prog 3] := by
        unfold sliceBound; rw [if_neg (swapperK_gt _ _ _ (by omega))]
      obtain ⟨os0, hW⟩ : ∃ os0, stableWorld Try.prog Try.laysGt8_ren 22 (some ⟨blk, off, none⟩) d.size c w = grow w os0 := by
        unfold stableWorld; rw [alloc_eq_grow, alloc_eq_grow, grow_grow]
        exact ⟨_, rfl⟩
      rw [hB, hW]
      have hp := stable_big (en := en) lt hO g lb 24 _ blk off d.size d (grow w os0) eg (swapSwaps_of_literal true _ swap_of 3 siE siE_info siE_size (fun _ => by kernel_rfl) en h1 blk off d.size c) (hless.grow hblk os0) (holds_grow en w _ blk off d hblk hH) (by rw [size_grow]; omega) rfl (by omega) h32 hr
      refine hp.mono ?_
      rintro e w' ⟨rfl, d', ⟨m, os, rfl⟩, hM⟩
      exact ⟨rfl, d', ⟨m, os0 ++ os, by unfold sortWorld; rw [ahead_grow, putRow_grow en (Sort.ahead w m) _ blk off _ hblk, grow_grow]⟩, hM⟩
end Go.Proofs.Ytblgeehdngejpaa
