/-
  The library's stable_func, walked at 21 to 32 elements that rise.
-/
import Derived.Test.YtblgeehdngejpaaSwp10
import Derived.Test.YtblgeehdngejpaaSwp7
import Derived.Test.YtblgeehdngejpaaShelf
namespace Go.Proofs.Ytblgeehdngejpaa
open Go.RowKit Go.Lib Go.Sort Go.Shelf
set_option linter.unusedVariables false
variable {en : Int → Value}

set_option maxRecDepth 8000 in
set_option maxHeartbeats 4000000 in
theorem stable_big (lt : Int → Int → Bool) (hO : SWO lt) (g : Nat) (lb : Array Value) (sf : Nat) (sb : Array Value) (blk off n : Nat) (d : Array Int) (W : World) (eg : ∀ args w, (callFunc g args).run Try.prog w = .ok (.enter g args) w) (hswap : SwapSwaps Try.prog sf sb en blk off n) (hless : LessReads Try.prog g lb en lt blk off n W)
    (hH : Holds en W blk off d) (hblk : blk < W.heap.size) (hd : d.size = n) (h20 : 20 < n) (h32 : n ≤ 32) (hr : ∀ p q, p < q → q < n → d[p]! < d[q]!) :
    Calls Try.prog 18 #[.agg #[.func (.func g) #[] lb, .func (.func sf) #[] sb], .int .i64 n] W fun e w' => e = .returned (.tuple #[]) ∧ ∃ d', SW en W blk off d' w' ∧ MgR lt 0 n d d' := by
  obtain ⟨WB, hWB⟩ : ∃ WB, WB = W.alloc (boxO g lb sf sb) := ⟨_, rfl⟩
  have hSB : SW en W blk off d WB := by rw [hWB]; exact (SW.start hH).alloc _
  have hHB : Holds en WB blk off d := hSB.holds hblk hH rfl
  have hbB : blk < WB.heap.size := hSB.lt hblk
  have hLB : LessReads Try.prog g lb en lt blk off n WB := hSB.lessReads hless hblk hd
  have hgB : W.heap.size < WB.heap.size := by rw [hWB]; simp
  have b0 : WB.cell? ⟨W.heap.size, 0, none⟩ = some (.func (.func g) #[] lb) := by rw [hWB]; simp [boxO]
  have b1 : WB.cell? ⟨W.heap.size, 1, none⟩ = some (.func (.func sf) #[] sb) := by rw [hWB]; simp [boxO]
  have hne : W.heap.size ≠ blk := by omega
  obtain ⟨e1, he1⟩ : ∃ e1, e1 = Sort.insertionSort lt d 0 20 := ⟨_, rfl⟩
  obtain ⟨e2, he2⟩ : ∃ e2, e2 = Sort.insertionSort lt e1 20 n := ⟨_, rfl⟩
  have hM1 : MgR lt 0 20 d e1 := by rw [he1]; exact ins_all hO (by omega) (by omega) (fun p q _ h2 h3 => hr p q h2 (by omega))
  have hs1 : e1.size = n := by rw [hM1.1, hd]
  have hM2 : MgR lt 20 n e1 e2 := by
    rw [he2]
    exact ins_all hO (by omega) (by omega) (fun p q h1 h2 h3 => by rw [hM1.2.1 p (by omega), hM1.2.1 q (by omega)]; exact hr p q h2 h3)
  have hs2 : e2.size = n := by rw [hM2.1, hs1]
  have H12 := Lib.hid (two_parts hO (d := d) (m := 20) (b := n) (by omega) (by omega) (fun p q h1 h2 => hr p q h1 h2) hM1 hM2)
  have HC1 : Hid (Calls Try.prog 29 #[.agg #[.func (.func g) #[] lb, .func (.func sf) #[] sb], .int .i64 0, .int .i64 20] WB fun e w' => e = .returned (.tuple #[]) ∧ ∃ n os, w' = sortWorld en WB blk off n e1 os) := by
    rw [he1]
    exact Lib.hid (Try.insertionSort_func_w en lt g lb sf sb blk off 0 20 d WB eg (by rw [hd]; exact hLB) (by rw [hd]; exact hswap) hHB hbB (by omega) (by omega) (by omega))
  have HC2 : Hid (∀ w1, SW en WB blk off e1 w1 → Calls Try.prog 29 #[.agg #[.func (.func g) #[] lb, .func (.func sf) #[] sb], .int .i64 20, .int .i64 n] w1 fun e w' => e = .returned (.tuple #[]) ∧ ∃ n os, w' = sortWorld en w1 blk off n e2 os) := by
    rw [he2]
    exact Lib.hid (fun w1 hS => Try.insertionSort_func_w en lt g lb sf sb blk off 20 n e1 w1 eg (by rw [hs1]; exact hS.lessReads hLB hbB hs1) (by rw [hs1]; exact hswap) (hS.holds hbB hHB (by rw [hs1, hd])) (hS.lt hbB) (by omega) (by omega) (by omega))
  have HC3 : Hid (∀ w1, SW en WB blk off e2 w1 → Calls Try.prog 30 #[.agg #[.func (.func g) #[] lb, .func (.func sf) #[] sb], .int .i64 0, .int .i64 20, .int .i64 n] w1 fun e w' => e = .returned (.tuple #[]) ∧ ∃ d', SW en w1 blk off d' w' ∧ MgR lt 0 n e2 d') :=
    Lib.hid (fun w1 hS => symMerge_all lt hO g lb sf sb blk off n eg hswap (by omega) n 0 20 n e2 w1 (by omega) (hS.lessReads hLB hbB hs2) (hS.holds hbB hHB (by rw [hs2, hd])) (hS.lt hbB) hs2 (by omega) (by omega) (by omega) H12.out.1)
  have HSB := Lib.hid hSB
  have HWB := Lib.hid hWB
  have HD := Lib.hid hd
  have HS1 := Lib.hid hs1
  have HS2 := Lib.hid hs2
  clear hSB hHB hLB hless hswap hH hWB he1 he2 hM1 hM2 hs1 hs2 hd hr
  go_enter Try.func18, Try.ntmps18
  go_wp2
  rw [show W.alloc (.cells #[.func (.func g) #[] lb, .func (.func sf) #[] sb] 44) = WB from HWB.out.symm]
  refine wp_loop_rounds 2 ?_
  rw [rounds_succ]
  go_wp2_with fail
  refine HC1.out.mono ?_
  rintro e w1 ⟨rfl, n1, os1, hw⟩
  have HSa : Hid (SW en WB blk off e1 w1) := Lib.hid ⟨n1, os1, hw⟩
  clear hw
  have k0 : w1.cell? ⟨W.heap.size, 0, none⟩ = some (.func (.func g) #[] lb) := (sw_cell HSa.out hne hgB 0).trans b0
  have k1 : w1.cell? ⟨W.heap.size, 1, none⟩ = some (.func (.func sf) #[] sb) := (sw_cell HSa.out hne hgB 1).trans b1
  go_wp2
  rw [rounds_succ]
  go_wp2_with fail
  refine (HC2.out w1 HSa.out).mono ?_
  rintro e w2 ⟨rfl, n2, os2, hw⟩
  have HSb : Hid (SW en WB blk off e2 w2) := Lib.hid (sw_trans HSa.out hbB (by rw [HS1.out, HS2.out]) ⟨n2, os2, hw⟩)
  clear hw
  have k2 : w2.cell? ⟨W.heap.size, 0, none⟩ = some (.func (.func g) #[] lb) := (sw_cell HSb.out hne hgB 0).trans b0
  have k3 : w2.cell? ⟨W.heap.size, 1, none⟩ = some (.func (.func sf) #[] sb) := (sw_cell HSb.out hne hgB 1).trans b1
  go_wp2
  refine wp_loop_rounds 2 ?_
  rw [rounds_succ]
  go_wp2
  refine wp_loop_rounds 1 ?_
  rw [rounds_succ]
  go_wp2_with fail
  refine (HC3.out w2 HSb.out).mono ?_
  rintro e w3 ⟨rfl, d', hS3, hR3⟩
  have HS3 := Lib.hid hS3
  have HR3 := Lib.hid hR3
  clear hS3 hR3
  go_wp2
  rw [rounds_succ]
  go_wp2
  go_end0
  have z3 := HR3.out.1
  have z2 := HS2.out
  have zd := HD.out
  refine ⟨rfl, d', sw_trans HSB.out hblk (by omega) (sw_trans HSb.out hbB (by omega) HS3.out), by omega, fun k hk => ?_, HR3.out.2.2.1, fun k _ h2 => ?_⟩
  · rw [getElem!_neg d' k (by omega), getElem!_neg d k (by omega)]
  · obtain ⟨k', _, x2, x3⟩ := HR3.out.2.2.2 k (Nat.zero_le _) h2
    obtain ⟨k2, y1, y2⟩ := H12.out.2 k' x2
    exact ⟨k2, Nat.zero_le _, y1, by rw [x3, y2]⟩
end Go.Proofs.Ytblgeehdngejpaa
