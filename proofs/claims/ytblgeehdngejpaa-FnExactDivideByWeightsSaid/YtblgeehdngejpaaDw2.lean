/-
  DivideByWeights: the call of sort.SliceStable on the order.
-/
import Derived.Test.YtblgeehdngejpaaDw1
import Derived.Test.YtblgeehdngejpaaSwp12
namespace Go.Proofs.Ytblgeehdngejpaa
open Go.RowKit Go.Lib Go.Sort Go.Shelf
set_option linter.unusedVariables false

/-- an element as the slice holds it -/
def eN (n : Nat) (x : Int) : Value := .int .i64 (x % (n : Int))
theorem eN_at {n k : Nat} (h : k < n) : eN n (k : Int) = .int .i64 (k : Int) := by unfold eN; rw [Int.emod_eq_of_lt (by omega) (by omega)]
theorem sw_gr {en : Int → Value} {w0 W : World} {blk off : Nat} {dk : Array Int} (h : SW en w0 blk off dk W) : w0.grownBy W (some blk) := by
  obtain ⟨n, os, rfl⟩ := h
  refine ⟨rfl, rfl, rfl, ?_, fun k hk hne => ?_⟩
  · exact SW.le (enc := en) (dk := dk) (blk := blk) (off := off) ⟨n, os, rfl⟩
  · have hne' : blk ≠ k := fun e => hne (by rw [e])
    show ((putRow en (Sort.ahead w0 n) blk off dk).heap ++ os)[k]? = w0.heap[k]?
    rw [Array.getElem?_append_left (by rw [size_putRow]; exact hk)]
    show (w0.heap.modify blk (onCells (putCells en off dk)))[k]? = w0.heap[k]?
    rw [Array.getElem?_modify, if_neg hne']
theorem order_lessReads (tb wb ob ab : Nat) (T S : Int) (xs : List Int) (A : Option Addr) (n cA blk off c B : Nat) (w : World) (hxl : xs.length = n) (h32 : n ≤ 32) (hS : 0 < S) (hT : 0 ≤ T ∧ T ≤ 100000) (hx : ∀ x ∈ xs, 0 ≤ x ∧ x ≤ 1000000)
    (ct : w.cell? ⟨tb, 0, none⟩ = some (.int .i64 T)) (cw : w.cell? ⟨wb, 0, none⟩ = some (.slice A n cA)) (co : w.cell? ⟨ob, 0, none⟩ = some (.slice (some ⟨blk, off, none⟩) n c)) (ca : w.cell? ⟨ab, 0, none⟩ = some (.int .i64 S))
    (h1 : tb < w.heap.size ∧ tb ≠ blk) (h2 : wb < w.heap.size ∧ wb ≠ blk) (h3 : ob < w.heap.size ∧ ob ≠ blk) (h4 : ab < w.heap.size ∧ ab ≠ blk) (hB : B ≤ blk) (hblk : blk < w.heap.size)
    (hr : Rd cI 1 w B A n xs) (d : Array Int) (hd : d.size = n) (hH : Holds (eN n) w blk off d) :
    LessReads Try.prog 15 #[.pointer (some ⟨tb, 0, none⟩), .pointer (some ⟨wb, 0, none⟩), .pointer (some ⟨ob, 0, none⟩), .pointer (some ⟨ab, 0, none⟩)] (eN n) (ltW xs T S n) blk off n w := by
  intro m os dk hs i j hi hj
  have hSW : SW (eN n) w blk off dk (sortWorld (eN n) w blk off m dk os) := ⟨m, os, rfl⟩
  have hHk := hSW.holds hblk hH (by rw [hs, hd])
  generalize sortWorld (eN n) w blk off m dk os = W at hSW hHk
  exact less_any tb wb ob ab T S xs A n cA blk off c B dk W h32 hS hT hx ((sw_cell hSW h1.2 h1.1 0).trans ct) ((sw_cell hSW h2.2 h2.1 0).trans cw) ((sw_cell hSW h3.2 h3.1 0).trans co) ((sw_cell hSW h4.2 h4.1 0).trans ca)
    (hr.keep (fun b o hb => sw_cell hSW (by omega) (by omega) o)) (fun t ht => (hHk t (by omega)).1) i j hi hj
set_option maxHeartbeats 1000000 in
theorem order_sorted (tb wb ob ab : Nat) (T S : Int) (xs : List Int) (A : Option Addr) (n cA blk off c B : Nat) (w : World) (hxl : xs.length = n) (h0 : 1 ≤ n) (h32 : n ≤ 32) (hS : 0 < S) (hT : 0 ≤ T ∧ T ≤ 100000) (hx : ∀ x ∈ xs, 0 ≤ x ∧ x ≤ 1000000)
    (ct : w.cell? ⟨tb, 0, none⟩ = some (.int .i64 T)) (cw : w.cell? ⟨wb, 0, none⟩ = some (.slice A n cA)) (co : w.cell? ⟨ob, 0, none⟩ = some (.slice (some ⟨blk, off, none⟩) n c)) (ca : w.cell? ⟨ab, 0, none⟩ = some (.int .i64 S))
    (h1 : tb < w.heap.size ∧ tb ≠ blk) (h2 : wb < w.heap.size ∧ wb ≠ blk) (h3 : ob < w.heap.size ∧ ob ≠ blk) (h4 : ab < w.heap.size ∧ ab ≠ blk) (hB : B ≤ blk) (hblk : blk < w.heap.size)
    (hr : Rd cI 1 w B A n xs) (hc : ∀ t, t < n → w.cell? ⟨blk, off + t, none⟩ = some (.int .i64 (t : Int))) (hf : ∀ t, t < n → w.frozen? ⟨blk, off + t, none⟩ = false) :
    Calls Try.prog 14 #[.iface 22 (.slice (some ⟨blk, off, none⟩) n c), .func (.func 15) #[] #[.pointer (some ⟨tb, 0, none⟩), .pointer (some ⟨wb, 0, none⟩), .pointer (some ⟨ob, 0, none⟩), .pointer (some ⟨ab, 0, none⟩)]] w
      fun e w' => e = .returned (.tuple #[]) ∧ w.grownBy w' (some blk) ∧ ∀ r, r < n → w'.cell? ⟨blk, off + r, none⟩ = some (.int .i64 (oW xs T S n r : Int)) := by
  have hH : Holds (eN n) w blk off (rngA n) := fun t ht => by
    rw [rngA_size] at ht
    rw [rngA_at ht, eN_at ht]
    exact ⟨hc t ht, hf t ht⟩
  have hL := order_lessReads tb wb ob ab T S xs A n cA blk off c B w hxl h32 hS hT hx ct cw co ca h1 h2 h3 h4 hB hblk hr (rngA n) (rngA_size n) hH
  refine (sort_some (en := eN n) (ltW xs T S n) (ltW_swo xs T S n) 15 _ (fun _ => rfl) (enters_of Try.func15 (by kernel_rfl) rfl) blk off c n (rngA n) w hL hH hblk (rngA_size n) h0 h32 (rngA_rise n)).mono ?_
  rintro e w' ⟨rfl, O, hSW, hM⟩
  refine ⟨rfl, sw_gr hSW, fun r hr2 => ?_⟩
  have hHk := hSW.holds hblk hH hM.1
  have hOs : O.size = n := by rw [hM.1, rngA_size]
  rw [(hHk r (by omega)).1]
  obtain ⟨k, hk, ek⟩ := ord_in hM hr2
  have hu := (ord_ok hM).uniq (oW_ok xs T S n) r hr2
  have hu2 : O[r]!.toNat = oW xs T S n r := hu
  rw [ek, Int.toNat_natCast] at hu2
  rw [ek, eN_at hk, hu2]
end Go.Proofs.Ytblgeehdngejpaa
