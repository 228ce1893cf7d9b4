/-
  FileStrike: contracts and the law's walk.
-/
import Derived.Test.YtbklljbjggoiaaaMa3
namespace Go.Proofs.Ytbklljbjggoiaaa
open Go.RowKit
set_option linter.unusedVariables false
attribute [local go_sem ↓] Go.wp_at_zero Go.wp_at_succ

def fsX (p n x : Int) (i : Int) : Int := if p = i then x - n else x
def fsH (a b c d f p n : Int) : Bool := strikeB a b c d f && inB p 0 4 && !(p == 2) && inB n 1 999
def fsB (a b c d f p n : Int) : Bool := fsH a b c d f p n && strikeB (fsX p n a 0) (fsX p n b 1) (fsX p n c 2) (fsX p n d 3) (fsX p n f 4)
def fsOut (a b c d f p n : Int) : Value := .tuple #[.agg #[.int .i64 (oV (fsB a b c d f p n) (fsX p n a 0)), .int .i64 (oV (fsB a b c d f p n) (fsX p n b 1)), .int .i64 (oV (fsB a b c d f p n) (fsX p n c 2)), .int .i64 (oV (fsB a b c d f p n) (fsX p n d 3)), .int .i64 (oV (fsB a b c d f p n) (fsX p n f 4))], .bool (fsB a b c d f p n)]
theorem fsOut_no {a b c d f p n : Int} (h : fsB a b c d f p n = false) : fsOut a b c d f p n = .tuple #[.agg #[.int .i64 0, .int .i64 0, .int .i64 0, .int .i64 0, .int .i64 0], .bool false] := by simp [fsOut, h, oV]
theorem fsB_0 {a b c d f n : Int} (h : fsH a b c d f 0 n = true) : fsB a b c d f 0 n = strikeB (a - n) (b) (c) (d) (f) := by simp [fsB, h, fsX]
theorem fsOut_0 {a b c d f n : Int} (h : fsB a b c d f 0 n = true) : fsOut a b c d f 0 n = .tuple #[.agg #[.int .i64 (a - n), .int .i64 (b), .int .i64 (c), .int .i64 (d), .int .i64 (f)], .bool true] := by simp [fsOut, h, oV, fsX]
theorem fsB_1 {a b c d f n : Int} (h : fsH a b c d f 1 n = true) : fsB a b c d f 1 n = strikeB (a) (b - n) (c) (d) (f) := by simp [fsB, h, fsX]
theorem fsOut_1 {a b c d f n : Int} (h : fsB a b c d f 1 n = true) : fsOut a b c d f 1 n = .tuple #[.agg #[.int .i64 (a), .int .i64 (b - n), .int .i64 (c), .int .i64 (d), .int .i64 (f)], .bool true] := by simp [fsOut, h, oV, fsX]
theorem fsB_3 {a b c d f n : Int} (h : fsH a b c d f 3 n = true) : fsB a b c d f 3 n = strikeB (a) (b) (c) (d - n) (f) := by simp [fsB, h, fsX]
theorem fsOut_3 {a b c d f n : Int} (h : fsB a b c d f 3 n = true) : fsOut a b c d f 3 n = .tuple #[.agg #[.int .i64 (a), .int .i64 (b), .int .i64 (c), .int .i64 (d - n), .int .i64 (f)], .bool true] := by simp [fsOut, h, oV, fsX]
theorem fsB_4 {a b c d f n : Int} (h : fsH a b c d f 4 n = true) : fsB a b c d f 4 n = strikeB (a) (b) (c) (d) (f - n) := by simp [fsB, h, fsX]
theorem fsOut_4 {a b c d f n : Int} (h : fsB a b c d f 4 n = true) : fsOut a b c d f 4 n = .tuple #[.agg #[.int .i64 (a), .int .i64 (b), .int .i64 (c), .int .i64 (d), .int .i64 (f - n)], .bool true] := by simp [fsOut, h, oV, fsX]
set_option maxHeartbeats 1000000 in
theorem specFile_no (a b c d f p n : Int) (w : World) (h : fsH a b c d f p n = false) : Calls Try.prog 28 #[.agg #[.int .i64 a, .int .i64 b, .int .i64 c, .int .i64 d, .int .i64 f], .int .i64 p, .int .i64 n] w fun e w' => e = .returned (fsOut a b c d f p n) ∧ Below w.heap.size w w' := by
  have HB := Lib.hid (show fsB a b c d f p n = false by simp [fsB, h])
  rcases h1 : strikeB a b c d f with _ | _
  · go_enter Try.func28, Try.ntmps28
    go_wp2_with (go_at_call 45; refine (maGood_any _ _ _ _ _ _).mono ?_; rintro e w' ⟨rfl, hb⟩; obtain ⟨hc0, hf0, hz0⟩ := bl_at hb (k := w.heap.size) (by first | assumption | (simp; done) | (simp; omega)); obtain ⟨hc1, hf1, hz1⟩ := bl_at hb (k := w.heap.size + 1) (by first | assumption | (simp; done) | (simp; omega)))
    refine bodyPost_ret (v := .tuple #[.agg #[.int .i64 0, .int .i64 0, .int .i64 0, .int .i64 0, .int .i64 0], .bool false]) (by simp [results, Try.results28, go_sem, *]) rfl ⟨ret_val (fsOut_no HB.out).symm, by repeat (first | (with_reducible exact Below.refl _ _) | (with_reducible assumption) | (with_reducible refine bl_alloc ?_ _) | (with_reducible refine bl_drew ?_) | (with_reducible refine bl_drewN ?_ _) | ((with_reducible refine bl_set ?_ ?hb _); (case hb => first | (simp; done) | omega | (simp; omega))) | (with_reducible refine bl_trans ?_ (by assumption)))⟩
  · rcases h2 : inB p 0 4 with _ | _
    · go_enter Try.func28, Try.ntmps28
      go_wp2_with (first | (go_at_call 45; refine (maGood_any _ _ _ _ _ _).mono ?_; rintro e w' ⟨rfl, hb⟩; obtain ⟨hc0, hf0, hz0⟩ := bl_at hb (k := w.heap.size) (by first | assumption | (simp; done) | (simp; omega)); obtain ⟨hc1, hf1, hz1⟩ := bl_at hb (k := w.heap.size + 1) (by first | assumption | (simp; done) | (simp; omega))) | (go_at_call 48; refine (l1In_any _ _ _ _).mono ?_; rintro e w' ⟨rfl, rfl⟩))
      refine bodyPost_ret (v := .tuple #[.agg #[.int .i64 0, .int .i64 0, .int .i64 0, .int .i64 0, .int .i64 0], .bool false]) (by simp [results, Try.results28, go_sem, *]) rfl ⟨ret_val (fsOut_no HB.out).symm, by repeat (first | (with_reducible exact Below.refl _ _) | (with_reducible assumption) | (with_reducible refine bl_alloc ?_ _) | (with_reducible refine bl_drew ?_) | (with_reducible refine bl_drewN ?_ _) | ((with_reducible refine bl_set ?_ ?hb _); (case hb => first | (simp; done) | omega | (simp; omega))) | (with_reducible refine bl_trans ?_ (by assumption)))⟩
    · rcases h3 : (p == 2) with _ | _
      · have h4 : inB n 1 999 = false := by simpa [fsH, h1, h2, h3] using h
        go_enter Try.func28, Try.ntmps28
        go_wp2_with (first | (go_at_call 45; refine (maGood_any _ _ _ _ _ _).mono ?_; rintro e w' ⟨rfl, hb⟩; obtain ⟨hc0, hf0, hz0⟩ := bl_at hb (k := w.heap.size) (by first | assumption | (simp; done) | (simp; omega)); obtain ⟨hc1, hf1, hz1⟩ := bl_at hb (k := w.heap.size + 1) (by first | assumption | (simp; done) | (simp; omega))) | (go_at_call 48; refine (l1In_any _ _ _ _).mono ?_; rintro e w' ⟨rfl, rfl⟩))
        refine bodyPost_ret (v := .tuple #[.agg #[.int .i64 0, .int .i64 0, .int .i64 0, .int .i64 0, .int .i64 0], .bool false]) (by simp [results, Try.results28, go_sem, *]) rfl ⟨ret_val (fsOut_no HB.out).symm, by repeat (first | (with_reducible exact Below.refl _ _) | (with_reducible assumption) | (with_reducible refine bl_alloc ?_ _) | (with_reducible refine bl_drew ?_) | (with_reducible refine bl_drewN ?_ _) | ((with_reducible refine bl_set ?_ ?hb _); (case hb => first | (simp; done) | omega | (simp; omega))) | (with_reducible refine bl_trans ?_ (by assumption)))⟩
      · go_enter Try.func28, Try.ntmps28
        go_wp2_with (first | (go_at_call 45; refine (maGood_any _ _ _ _ _ _).mono ?_; rintro e w' ⟨rfl, hb⟩; obtain ⟨hc0, hf0, hz0⟩ := bl_at hb (k := w.heap.size) (by first | assumption | (simp; done) | (simp; omega)); obtain ⟨hc1, hf1, hz1⟩ := bl_at hb (k := w.heap.size + 1) (by first | assumption | (simp; done) | (simp; omega))) | (go_at_call 48; refine (l1In_any _ _ _ _).mono ?_; rintro e w' ⟨rfl, rfl⟩))
        refine bodyPost_ret (v := .tuple #[.agg #[.int .i64 0, .int .i64 0, .int .i64 0, .int .i64 0, .int .i64 0], .bool false]) (by simp [results, Try.results28, go_sem, *]) rfl ⟨ret_val (fsOut_no HB.out).symm, by repeat (first | (with_reducible exact Below.refl _ _) | (with_reducible assumption) | (with_reducible refine bl_alloc ?_ _) | (with_reducible refine bl_drew ?_) | (with_reducible refine bl_drewN ?_ _) | ((with_reducible refine bl_set ?_ ?hb _); (case hb => first | (simp; done) | omega | (simp; omega))) | (with_reducible refine bl_trans ?_ (by assumption)))⟩
set_option maxHeartbeats 1000000 in
theorem implFile_no (a b c d f p n : Int) (w : World) (h : fsH a b c d f p n = false) : Calls Try.prog 29 #[.agg #[.int .i64 a, .int .i64 b, .int .i64 c, .int .i64 d, .int .i64 f], .int .i64 p, .int .i64 n] w fun e w' => e = .returned (fsOut a b c d f p n) ∧ Below w.heap.size w w' := by
  have HB := Lib.hid (show fsB a b c d f p n = false by simp [fsB, h])
  rcases h1 : strikeB a b c d f with _ | _
  · go_enter Try.func29, Try.ntmps29
    go_wp2_with (go_at_call 16; refine (implIsStrike_any _ _ _ _ _ _).mono ?_; rintro e w' ⟨rfl, hb⟩; obtain ⟨hc0, hf0, hz0⟩ := bl_at hb (k := w.heap.size) (by first | assumption | (simp; done) | (simp; omega)); obtain ⟨hc1, hf1, hz1⟩ := bl_at hb (k := w.heap.size + 1) (by first | assumption | (simp; done) | (simp; omega)))
    refine bodyPost_ret (v := .tuple #[.agg #[.int .i64 0, .int .i64 0, .int .i64 0, .int .i64 0, .int .i64 0], .bool false]) (by simp [results, Try.results29, go_sem, *]) rfl ⟨ret_val (fsOut_no HB.out).symm, by repeat (first | (with_reducible exact Below.refl _ _) | (with_reducible assumption) | (with_reducible refine bl_alloc ?_ _) | (with_reducible refine bl_drew ?_) | (with_reducible refine bl_drewN ?_ _) | ((with_reducible refine bl_set ?_ ?hb _); (case hb => first | (simp; done) | omega | (simp; omega))) | (with_reducible refine bl_trans ?_ (by assumption)))⟩
  · rcases h2 : inB p 0 4 with _ | _
    · go_enter Try.func29, Try.ntmps29
      go_wp2_with (first | (go_at_call 16; refine (implIsStrike_any _ _ _ _ _ _).mono ?_; rintro e w' ⟨rfl, hb⟩; obtain ⟨hc0, hf0, hz0⟩ := bl_at hb (k := w.heap.size) (by first | assumption | (simp; done) | (simp; omega)); obtain ⟨hc1, hf1, hz1⟩ := bl_at hb (k := w.heap.size + 1) (by first | assumption | (simp; done) | (simp; omega))) | (go_at_call 47; refine (within_any _ _ _ _).mono ?_; rintro e w' ⟨rfl, rfl⟩))
      refine bodyPost_ret (v := .tuple #[.agg #[.int .i64 0, .int .i64 0, .int .i64 0, .int .i64 0, .int .i64 0], .bool false]) (by simp [results, Try.results29, go_sem, *]) rfl ⟨ret_val (fsOut_no HB.out).symm, by repeat (first | (with_reducible exact Below.refl _ _) | (with_reducible assumption) | (with_reducible refine bl_alloc ?_ _) | (with_reducible refine bl_drew ?_) | (with_reducible refine bl_drewN ?_ _) | ((with_reducible refine bl_set ?_ ?hb _); (case hb => first | (simp; done) | omega | (simp; omega))) | (with_reducible refine bl_trans ?_ (by assumption)))⟩
    · rcases h3 : (p == 2) with _ | _
      · have h4 : inB n 1 999 = false := by simpa [fsH, h1, h2, h3] using h
        go_enter Try.func29, Try.ntmps29
        go_wp2_with (first | (go_at_call 16; refine (implIsStrike_any _ _ _ _ _ _).mono ?_; rintro e w' ⟨rfl, hb⟩; obtain ⟨hc0, hf0, hz0⟩ := bl_at hb (k := w.heap.size) (by first | assumption | (simp; done) | (simp; omega)); obtain ⟨hc1, hf1, hz1⟩ := bl_at hb (k := w.heap.size + 1) (by first | assumption | (simp; done) | (simp; omega))) | (go_at_call 47; refine (within_any _ _ _ _).mono ?_; rintro e w' ⟨rfl, rfl⟩))
        refine bodyPost_ret (v := .tuple #[.agg #[.int .i64 0, .int .i64 0, .int .i64 0, .int .i64 0, .int .i64 0], .bool false]) (by simp [results, Try.results29, go_sem, *]) rfl ⟨ret_val (fsOut_no HB.out).symm, by repeat (first | (with_reducible exact Below.refl _ _) | (with_reducible assumption) | (with_reducible refine bl_alloc ?_ _) | (with_reducible refine bl_drew ?_) | (with_reducible refine bl_drewN ?_ _) | ((with_reducible refine bl_set ?_ ?hb _); (case hb => first | (simp; done) | omega | (simp; omega))) | (with_reducible refine bl_trans ?_ (by assumption)))⟩
      · go_enter Try.func29, Try.ntmps29
        go_wp2_with (first | (go_at_call 16; refine (implIsStrike_any _ _ _ _ _ _).mono ?_; rintro e w' ⟨rfl, hb⟩; obtain ⟨hc0, hf0, hz0⟩ := bl_at hb (k := w.heap.size) (by first | assumption | (simp; done) | (simp; omega)); obtain ⟨hc1, hf1, hz1⟩ := bl_at hb (k := w.heap.size + 1) (by first | assumption | (simp; done) | (simp; omega))) | (go_at_call 47; refine (within_any _ _ _ _).mono ?_; rintro e w' ⟨rfl, rfl⟩))
        refine bodyPost_ret (v := .tuple #[.agg #[.int .i64 0, .int .i64 0, .int .i64 0, .int .i64 0, .int .i64 0], .bool false]) (by simp [results, Try.results29, go_sem, *]) rfl ⟨ret_val (fsOut_no HB.out).symm, by repeat (first | (with_reducible exact Below.refl _ _) | (with_reducible assumption) | (with_reducible refine bl_alloc ?_ _) | (with_reducible refine bl_drew ?_) | (with_reducible refine bl_drewN ?_ _) | ((with_reducible refine bl_set ?_ ?hb _); (case hb => first | (simp; done) | omega | (simp; omega))) | (with_reducible refine bl_trans ?_ (by assumption)))⟩
set_option maxHeartbeats 1000000 in
theorem specFile_0 (a b c d f n : Int) (w : World) (h : fsH a b c d f 0 n = true) : Calls Try.prog 28 #[.agg #[.int .i64 a, .int .i64 b, .int .i64 c, .int .i64 d, .int .i64 f], .int .i64 0, .int .i64 n] w fun e w' => e = .returned (fsOut a b c d f 0 n) ∧ Below w.heap.size w w' := by
  have hE := fsB_0 h
  have hh : strikeB a b c d f = true ∧ inB n 1 999 = true ∧ inB 0 0 4 = true := by simpa [fsH, and_assoc, and_comm, and_left_comm] using h
  obtain ⟨h1, h3, h2⟩ := hh
  obtain ⟨⟨a0, a1⟩, ⟨b0, b1⟩, ⟨c0, c1⟩, ⟨d0, d1⟩, f0, f1⟩ := strike_iff.1 h1
  obtain ⟨n0, n1⟩ := inB_iff.1 h3
  rcases h4 : strikeB (a - n) (b) (c) (d) (f) with _ | _
  all_goals
    have HB := Lib.hid (hE.trans h4)
    go_enter Try.func28, Try.ntmps28
    go_wp2_with fail; refine (maGood_any _ _ _ _ _ _).mono ?_; rintro e w1 ⟨rfl, hb⟩
    obtain ⟨hc0, hf0, hz0⟩ := bl_at hb (k := w.heap.size) (by first | assumption | (simp; done) | (simp; omega)); obtain ⟨hc1, hf1, hz1⟩ := bl_at hb (k := w.heap.size + 1) (by first | assumption | (simp; done) | (simp; omega))
    go_wp2_with (first | (go_at_call 48; refine (l1In_any _ _ _ _).mono ?_; rintro e w' ⟨rfl, rfl⟩) | (go_at_call 52; refine (maParts_any _ _ _ _ _ _).mono ?_; rintro e w' ⟨rfl, rfl⟩))
    go_wp2_with (first
      | (go_at_call 53; refine (maOf_any (w1.heap.size + 1) 0 5 5 (a - n) (b) (c) (d) (f) _ (by first | assumption | (simp; done) | (simp; omega)) (by omega) (by go_simp) (by go_simp) (by go_simp) (by go_simp) (by go_simp)).mono ?_; rintro e w' ⟨rfl, hb⟩; obtain ⟨hc1, hf1, hz1⟩ := bl_at hb (k := w.heap.size + 1) (by first | assumption | (simp; done) | (simp; omega)); obtain ⟨hc4, hf4, hz4⟩ := bl_at hb (k := w1.heap.size + 1) (by first | assumption | (simp; done) | (simp; omega)))
      | (go_at_call 45; refine (maGood_any _ _ _ _ _ _).mono ?_; rintro e w' ⟨rfl, hb⟩; obtain ⟨hc1, hf1, hz1⟩ := bl_at hb (k := w.heap.size + 1) (by first | assumption | (simp; done) | (simp; omega)); obtain ⟨hc4, hf4, hz4⟩ := bl_at hb (k := w1.heap.size + 1) (by first | assumption | (simp; done) | (simp; omega))))
  · refine bodyPost_ret (v := .tuple #[.agg #[.int .i64 0, .int .i64 0, .int .i64 0, .int .i64 0, .int .i64 0], .bool false]) (by simp [results, Try.results28, go_sem, *]) rfl ⟨ret_val (fsOut_no HB.out).symm, by repeat (first | (with_reducible exact Below.refl _ _) | (with_reducible assumption) | (with_reducible refine bl_alloc ?_ _) | (with_reducible refine bl_drew ?_) | (with_reducible refine bl_drewN ?_ _) | ((with_reducible refine bl_set ?_ ?hb _); (case hb => first | (simp; done) | omega | (simp; omega))) | (with_reducible refine bl_trans ?_ (by assumption)))⟩
  · refine bodyPost_ret (v := .tuple #[.agg #[.int .i64 (a - n), .int .i64 (b), .int .i64 (c), .int .i64 (d), .int .i64 (f)], .bool true]) (by simp [results, Try.results28, go_sem, *]) rfl ⟨ret_val (fsOut_0 HB.out).symm, by repeat (first | (with_reducible exact Below.refl _ _) | (with_reducible assumption) | (with_reducible refine bl_alloc ?_ _) | (with_reducible refine bl_drew ?_) | (with_reducible refine bl_drewN ?_ _) | ((with_reducible refine bl_set ?_ ?hb _); (case hb => first | (simp; done) | omega | (simp; omega))) | (with_reducible refine bl_trans ?_ (by assumption)))⟩
set_option maxHeartbeats 1000000 in
theorem implFile_0 (a b c d f n : Int) (w : World) (h : fsH a b c d f 0 n = true) : Calls Try.prog 29 #[.agg #[.int .i64 a, .int .i64 b, .int .i64 c, .int .i64 d, .int .i64 f], .int .i64 0, .int .i64 n] w fun e w' => e = .returned (fsOut a b c d f 0 n) ∧ Below w.heap.size w w' := by
  have hE := fsB_0 h
  have hh : strikeB a b c d f = true ∧ inB n 1 999 = true ∧ inB 0 0 4 = true := by simpa [fsH, and_assoc, and_comm, and_left_comm] using h
  obtain ⟨h1, h3, h2⟩ := hh
  obtain ⟨⟨a0, a1⟩, ⟨b0, b1⟩, ⟨c0, c1⟩, ⟨d0, d1⟩, f0, f1⟩ := strike_iff.1 h1
  obtain ⟨n0, n1⟩ := inB_iff.1 h3
  rcases h4 : strikeB (a - n) (b) (c) (d) (f) with _ | _
  all_goals
    have HB := Lib.hid (hE.trans h4)
    go_enter Try.func29, Try.ntmps29
    go_wp2_with fail; refine (implIsStrike_any _ _ _ _ _ _).mono ?_; rintro e w1 ⟨rfl, hb⟩
    obtain ⟨hc0, hf0, hz0⟩ := bl_at hb (k := w.heap.size) (by first | assumption | (simp; done) | (simp; omega)); obtain ⟨hc1, hf1, hz1⟩ := bl_at hb (k := w.heap.size + 1) (by first | assumption | (simp; done) | (simp; omega))
    go_wp2_with (first | (go_at_call 47; refine (within_any _ _ _ _).mono ?_; rintro e w' ⟨rfl, rfl⟩) | (go_at_call 46; refine (parts_any _ _ _ _ _ _).mono ?_; rintro e w' ⟨rfl, rfl⟩))
    refine (strikeOf_any (w1.heap.size + 1) 0 5 5 (a - n) (b) (c) (d) (f) _ (by simp) (by omega) (by go_simp) (by go_simp) (by go_simp) (by go_simp) (by go_simp)).mono ?_
    rintro e w2 ⟨rfl, hb⟩
    obtain ⟨hc1, hf1, hz1⟩ := bl_at hb (k := w.heap.size + 1) (by first | assumption | (simp; done) | (simp; omega))
    go_wp2_with fail; refine (implIsStrike_any _ _ _ _ _ _).mono ?_; rintro e w3 ⟨rfl, hb⟩
    obtain ⟨hc1, hf1, hz1⟩ := bl_at hb (k := w.heap.size + 1) (by first | assumption | (simp; done) | (simp; omega))
    obtain ⟨hc5, hf5, hz5⟩ := bl_at hb (k := w2.heap.size) (by first | assumption | (simp; done) | (simp; omega))
    go_wp2
  · refine bodyPost_ret (v := .tuple #[.agg #[.int .i64 0, .int .i64 0, .int .i64 0, .int .i64 0, .int .i64 0], .bool false]) (by simp [results, Try.results29, go_sem, *]) rfl ⟨ret_val (fsOut_no HB.out).symm, by repeat (first | (with_reducible exact Below.refl _ _) | (with_reducible assumption) | (with_reducible refine bl_alloc ?_ _) | (with_reducible refine bl_drew ?_) | (with_reducible refine bl_drewN ?_ _) | ((with_reducible refine bl_set ?_ ?hb _); (case hb => first | (simp; done) | omega | (simp; omega))) | (with_reducible refine bl_trans ?_ (by assumption)))⟩
  · refine bodyPost_ret (v := .tuple #[.agg #[.int .i64 (a - n), .int .i64 (b), .int .i64 (c), .int .i64 (d), .int .i64 (f)], .bool true]) (by simp [results, Try.results29, go_sem, *]) rfl ⟨ret_val (fsOut_0 HB.out).symm, by repeat (first | (with_reducible exact Below.refl _ _) | (with_reducible assumption) | (with_reducible refine bl_alloc ?_ _) | (with_reducible refine bl_drew ?_) | (with_reducible refine bl_drewN ?_ _) | ((with_reducible refine bl_set ?_ ?hb _); (case hb => first | (simp; done) | omega | (simp; omega))) | (with_reducible refine bl_trans ?_ (by assumption)))⟩
set_option maxHeartbeats 1000000 in
theorem specFile_1 (a b c d f n : Int) (w : World) (h : fsH a b c d f 1 n = true) : Calls Try.prog 28 #[.agg #[.int .i64 a, .int .i64 b, .int .i64 c, .int .i64 d, .int .i64 f], .int .i64 1, .int .i64 n] w fun e w' => e = .returned (fsOut a b c d f 1 n) ∧ Below w.heap.size w w' := by
  have hE := fsB_1 h
  have hh : strikeB a b c d f = true ∧ inB n 1 999 = true ∧ inB 1 0 4 = true := by simpa [fsH, and_assoc, and_comm, and_left_comm] using h
  obtain ⟨h1, h3, h2⟩ := hh
  obtain ⟨⟨a0, a1⟩, ⟨b0, b1⟩, ⟨c0, c1⟩, ⟨d0, d1⟩, f0, f1⟩ := strike_iff.1 h1
  obtain ⟨n0, n1⟩ := inB_iff.1 h3
  rcases h4 : strikeB (a) (b - n) (c) (d) (f) with _ | _
  all_goals
    have HB := Lib.hid (hE.trans h4)
    go_enter Try.func28, Try.ntmps28
    go_wp2_with fail; refine (maGood_any _ _ _ _ _ _).mono ?_; rintro e w1 ⟨rfl, hb⟩
    obtain ⟨hc0, hf0, hz0⟩ := bl_at hb (k := w.heap.size) (by first | assumption | (simp; done) | (simp; omega)); obtain ⟨hc1, hf1, hz1⟩ := bl_at hb (k := w.heap.size + 1) (by first | assumption | (simp; done) | (simp; omega))
    go_wp2_with (first | (go_at_call 48; refine (l1In_any _ _ _ _).mono ?_; rintro e w' ⟨rfl, rfl⟩) | (go_at_call 52; refine (maParts_any _ _ _ _ _ _).mono ?_; rintro e w' ⟨rfl, rfl⟩))
    go_wp2_with (first
      | (go_at_call 53; refine (maOf_any (w1.heap.size + 1) 0 5 5 (a) (b - n) (c) (d) (f) _ (by first | assumption | (simp; done) | (simp; omega)) (by omega) (by go_simp) (by go_simp) (by go_simp) (by go_simp) (by go_simp)).mono ?_; rintro e w' ⟨rfl, hb⟩; obtain ⟨hc1, hf1, hz1⟩ := bl_at hb (k := w.heap.size + 1) (by first | assumption | (simp; done) | (simp; omega)); obtain ⟨hc4, hf4, hz4⟩ := bl_at hb (k := w1.heap.size + 1) (by first | assumption | (simp; done) | (simp; omega)))
      | (go_at_call 45; refine (maGood_any _ _ _ _ _ _).mono ?_; rintro e w' ⟨rfl, hb⟩; obtain ⟨hc1, hf1, hz1⟩ := bl_at hb (k := w.heap.size + 1) (by first | assumption | (simp; done) | (simp; omega)); obtain ⟨hc4, hf4, hz4⟩ := bl_at hb (k := w1.heap.size + 1) (by first | assumption | (simp; done) | (simp; omega))))
  · refine bodyPost_ret (v := .tuple #[.agg #[.int .i64 0, .int .i64 0, .int .i64 0, .int .i64 0, .int .i64 0], .bool false]) (by simp [results, Try.results28, go_sem, *]) rfl ⟨ret_val (fsOut_no HB.out).symm, by repeat (first | (with_reducible exact Below.refl _ _) | (with_reducible assumption) | (with_reducible refine bl_alloc ?_ _) | (with_reducible refine bl_drew ?_) | (with_reducible refine bl_drewN ?_ _) | ((with_reducible refine bl_set ?_ ?hb _); (case hb => first | (simp; done) | omega | (simp; omega))) | (with_reducible refine bl_trans ?_ (by assumption)))⟩
  · refine bodyPost_ret (v := .tuple #[.agg #[.int .i64 (a), .int .i64 (b - n), .int .i64 (c), .int .i64 (d), .int .i64 (f)], .bool true]) (by simp [results, Try.results28, go_sem, *]) rfl ⟨ret_val (fsOut_1 HB.out).symm, by repeat (first | (with_reducible exact Below.refl _ _) | (with_reducible assumption) | (with_reducible refine bl_alloc ?_ _) | (with_reducible refine bl_drew ?_) | (with_reducible refine bl_drewN ?_ _) | ((with_reducible refine bl_set ?_ ?hb _); (case hb => first | (simp; done) | omega | (simp; omega))) | (with_reducible refine bl_trans ?_ (by assumption)))⟩
set_option maxHeartbeats 1000000 in
theorem implFile_1 (a b c d f n : Int) (w : World) (h : fsH a b c d f 1 n = true) : Calls Try.prog 29 #[.agg #[.int .i64 a, .int .i64 b, .int .i64 c, .int .i64 d, .int .i64 f], .int .i64 1, .int .i64 n] w fun e w' => e = .returned (fsOut a b c d f 1 n) ∧ Below w.heap.size w w' := by
  have hE := fsB_1 h
  have hh : strikeB a b c d f = true ∧ inB n 1 999 = true ∧ inB 1 0 4 = true := by simpa [fsH, and_assoc, and_comm, and_left_comm] using h
  obtain ⟨h1, h3, h2⟩ := hh
  obtain ⟨⟨a0, a1⟩, ⟨b0, b1⟩, ⟨c0, c1⟩, ⟨d0, d1⟩, f0, f1⟩ := strike_iff.1 h1
  obtain ⟨n0, n1⟩ := inB_iff.1 h3
  rcases h4 : strikeB (a) (b - n) (c) (d) (f) with _ | _
  all_goals
    have HB := Lib.hid (hE.trans h4)
    go_enter Try.func29, Try.ntmps29
    go_wp2_with fail; refine (implIsStrike_any _ _ _ _ _ _).mono ?_; rintro e w1 ⟨rfl, hb⟩
    obtain ⟨hc0, hf0, hz0⟩ := bl_at hb (k := w.heap.size) (by first | assumption | (simp; done) | (simp; omega)); obtain ⟨hc1, hf1, hz1⟩ := bl_at hb (k := w.heap.size + 1) (by first | assumption | (simp; done) | (simp; omega))
    go_wp2_with (first | (go_at_call 47; refine (within_any _ _ _ _).mono ?_; rintro e w' ⟨rfl, rfl⟩) | (go_at_call 46; refine (parts_any _ _ _ _ _ _).mono ?_; rintro e w' ⟨rfl, rfl⟩))
    refine (strikeOf_any (w1.heap.size + 1) 0 5 5 (a) (b - n) (c) (d) (f) _ (by simp) (by omega) (by go_simp) (by go_simp) (by go_simp) (by go_simp) (by go_simp)).mono ?_
    rintro e w2 ⟨rfl, hb⟩
    obtain ⟨hc1, hf1, hz1⟩ := bl_at hb (k := w.heap.size + 1) (by first | assumption | (simp; done) | (simp; omega))
    go_wp2_with fail; refine (implIsStrike_any _ _ _ _ _ _).mono ?_; rintro e w3 ⟨rfl, hb⟩
    obtain ⟨hc1, hf1, hz1⟩ := bl_at hb (k := w.heap.size + 1) (by first | assumption | (simp; done) | (simp; omega))
    obtain ⟨hc5, hf5, hz5⟩ := bl_at hb (k := w2.heap.size) (by first | assumption | (simp; done) | (simp; omega))
    go_wp2
  · refine bodyPost_ret (v := .tuple #[.agg #[.int .i64 0, .int .i64 0, .int .i64 0, .int .i64 0, .int .i64 0], .bool false]) (by simp [results, Try.results29, go_sem, *]) rfl ⟨ret_val (fsOut_no HB.out).symm, by repeat (first | (with_reducible exact Below.refl _ _) | (with_reducible assumption) | (with_reducible refine bl_alloc ?_ _) | (with_reducible refine bl_drew ?_) | (with_reducible refine bl_drewN ?_ _) | ((with_reducible refine bl_set ?_ ?hb _); (case hb => first | (simp; done) | omega | (simp; omega))) | (with_reducible refine bl_trans ?_ (by assumption)))⟩
  · refine bodyPost_ret (v := .tuple #[.agg #[.int .i64 (a), .int .i64 (b - n), .int .i64 (c), .int .i64 (d), .int .i64 (f)], .bool true]) (by simp [results, Try.results29, go_sem, *]) rfl ⟨ret_val (fsOut_1 HB.out).symm, by repeat (first | (with_reducible exact Below.refl _ _) | (with_reducible assumption) | (with_reducible refine bl_alloc ?_ _) | (with_reducible refine bl_drew ?_) | (with_reducible refine bl_drewN ?_ _) | ((with_reducible refine bl_set ?_ ?hb _); (case hb => first | (simp; done) | omega | (simp; omega))) | (with_reducible refine bl_trans ?_ (by assumption)))⟩
set_option maxHeartbeats 1000000 in
theorem specFile_3 (a b c d f n : Int) (w : World) (h : fsH a b c d f 3 n = true) : Calls Try.prog 28 #[.agg #[.int .i64 a, .int .i64 b, .int .i64 c, .int .i64 d, .int .i64 f], .int .i64 3, .int .i64 n] w fun e w' => e = .returned (fsOut a b c d f 3 n) ∧ Below w.heap.size w w' := by
  have hE := fsB_3 h
  have hh : strikeB a b c d f = true ∧ inB n 1 999 = true ∧ inB 3 0 4 = true := by simpa [fsH, and_assoc, and_comm, and_left_comm] using h
  obtain ⟨h1, h3, h2⟩ := hh
  obtain ⟨⟨a0, a1⟩, ⟨b0, b1⟩, ⟨c0, c1⟩, ⟨d0, d1⟩, f0, f1⟩ := strike_iff.1 h1
  obtain ⟨n0, n1⟩ := inB_iff.1 h3
  rcases h4 : strikeB (a) (b) (c) (d - n) (f) with _ | _
  all_goals
    have HB := Lib.hid (hE.trans h4)
    go_enter Try.func28, Try.ntmps28
    go_wp2_with fail; refine (maGood_any _ _ _ _ _ _).mono ?_; rintro e w1 ⟨rfl, hb⟩
    obtain ⟨hc0, hf0, hz0⟩ := bl_at hb (k := w.heap.size) (by first | assumption | (simp; done) | (simp; omega)); obtain ⟨hc1, hf1, hz1⟩ := bl_at hb (k := w.heap.size + 1) (by first | assumption | (simp; done) | (simp; omega))
    go_wp2_with (first | (go_at_call 48; refine (l1In_any _ _ _ _).mono ?_; rintro e w' ⟨rfl, rfl⟩) | (go_at_call 52; refine (maParts_any _ _ _ _ _ _).mono ?_; rintro e w' ⟨rfl, rfl⟩))
    go_wp2_with (first
      | (go_at_call 53; refine (maOf_any (w1.heap.size + 1) 0 5 5 (a) (b) (c) (d - n) (f) _ (by first | assumption | (simp; done) | (simp; omega)) (by omega) (by go_simp) (by go_simp) (by go_simp) (by go_simp) (by go_simp)).mono ?_; rintro e w' ⟨rfl, hb⟩; obtain ⟨hc1, hf1, hz1⟩ := bl_at hb (k := w.heap.size + 1) (by first | assumption | (simp; done) | (simp; omega)); obtain ⟨hc4, hf4, hz4⟩ := bl_at hb (k := w1.heap.size + 1) (by first | assumption | (simp; done) | (simp; omega)))
      | (go_at_call 45; refine (maGood_any _ _ _ _ _ _).mono ?_; rintro e w' ⟨rfl, hb⟩; obtain ⟨hc1, hf1, hz1⟩ := bl_at hb (k := w.heap.size + 1) (by first | assumption | (simp; done) | (simp; omega)); obtain ⟨hc4, hf4, hz4⟩ := bl_at hb (k := w1.heap.size + 1) (by first | assumption | (simp; done) | (simp; omega))))
  · refine bodyPost_ret (v := .tuple #[.agg #[.int .i64 0, .int .i64 0, .int .i64 0, .int .i64 0, .int .i64 0], .bool false]) (by simp [results, Try.results28, go_sem, *]) rfl ⟨ret_val (fsOut_no HB.out).symm, by repeat (first | (with_reducible exact Below.refl _ _) | (with_reducible assumption) | (with_reducible refine bl_alloc ?_ _) | (with_reducible refine bl_drew ?_) | (with_reducible refine bl_drewN ?_ _) | ((with_reducible refine bl_set ?_ ?hb _); (case hb => first | (simp; done) | omega | (simp; omega))) | (with_reducible refine bl_trans ?_ (by assumption)))⟩
  · refine bodyPost_ret (v := .tuple #[.agg #[.int .i64 (a), .int .i64 (b), .int .i64 (c), .int .i64 (d - n), .int .i64 (f)], .bool true]) (by simp [results, Try.results28, go_sem, *]) rfl ⟨ret_val (fsOut_3 HB.out).symm, by repeat (first | (with_reducible exact Below.refl _ _) | (with_reducible assumption) | (with_reducible refine bl_alloc ?_ _) | (with_reducible refine bl_drew ?_) | (with_reducible refine bl_drewN ?_ _) | ((with_reducible refine bl_set ?_ ?hb _); (case hb => first | (simp; done) | omega | (simp; omega))) | (with_reducible refine bl_trans ?_ (by assumption)))⟩
set_option maxHeartbeats 1000000 in
theorem implFile_3 (a b c d f n : Int) (w : World) (h : fsH a b c d f 3 n = true) : Calls Try.prog 29 #[.agg #[.int .i64 a, .int .i64 b, .int .i64 c, .int .i64 d, .int .i64 f], .int .i64 3, .int .i64 n] w fun e w' => e = .returned (fsOut a b c d f 3 n) ∧ Below w.heap.size w w' := by
  have hE := fsB_3 h
  have hh : strikeB a b c d f = true ∧ inB n 1 999 = true ∧ inB 3 0 4 = true := by simpa [fsH, and_assoc, and_comm, and_left_comm] using h
  obtain ⟨h1, h3, h2⟩ := hh
  obtain ⟨⟨a0, a1⟩, ⟨b0, b1⟩, ⟨c0, c1⟩, ⟨d0, d1⟩, f0, f1⟩ := strike_iff.1 h1
  obtain ⟨n0, n1⟩ := inB_iff.1 h3
  rcases h4 : strikeB (a) (b) (c) (d - n) (f) with _ | _
  all_goals
    have HB := Lib.hid (hE.trans h4)
    go_enter Try.func29, Try.ntmps29
    go_wp2_with fail; refine (implIsStrike_any _ _ _ _ _ _).mono ?_; rintro e w1 ⟨rfl, hb⟩
    obtain ⟨hc0, hf0, hz0⟩ := bl_at hb (k := w.heap.size) (by first | assumption | (simp; done) | (simp; omega)); obtain ⟨hc1, hf1, hz1⟩ := bl_at hb (k := w.heap.size + 1) (by first | assumption | (simp; done) | (simp; omega))
    go_wp2_with (first | (go_at_call 47; refine (within_any _ _ _ _).mono ?_; rintro e w' ⟨rfl, rfl⟩) | (go_at_call 46; refine (parts_any _ _ _ _ _ _).mono ?_; rintro e w' ⟨rfl, rfl⟩))
    refine (strikeOf_any (w1.heap.size + 1) 0 5 5 (a) (b) (c) (d - n) (f) _ (by simp) (by omega) (by go_simp) (by go_simp) (by go_simp) (by go_simp) (by go_simp)).mono ?_
    rintro e w2 ⟨rfl, hb⟩
    obtain ⟨hc1, hf1, hz1⟩ := bl_at hb (k := w.heap.size + 1) (by first | assumption | (simp; done) | (simp; omega))
    go_wp2_with fail; refine (implIsStrike_any _ _ _ _ _ _).mono ?_; rintro e w3 ⟨rfl, hb⟩
    obtain ⟨hc1, hf1, hz1⟩ := bl_at hb (k := w.heap.size + 1) (by first | assumption | (simp; done) | (simp; omega))
    obtain ⟨hc5, hf5, hz5⟩ := bl_at hb (k := w2.heap.size) (by first | assumption | (simp; done) | (simp; omega))
    go_wp2
  · refine bodyPost_ret (v := .tuple #[.agg #[.int .i64 0, .int .i64 0, .int .i64 0, .int .i64 0, .int .i64 0], .bool false]) (by simp [results, Try.results29, go_sem, *]) rfl ⟨ret_val (fsOut_no HB.out).symm, by repeat (first | (with_reducible exact Below.refl _ _) | (with_reducible assumption) | (with_reducible refine bl_alloc ?_ _) | (with_reducible refine bl_drew ?_) | (with_reducible refine bl_drewN ?_ _) | ((with_reducible refine bl_set ?_ ?hb _); (case hb => first | (simp; done) | omega | (simp; omega))) | (with_reducible refine bl_trans ?_ (by assumption)))⟩
  · refine bodyPost_ret (v := .tuple #[.agg #[.int .i64 (a), .int .i64 (b), .int .i64 (c), .int .i64 (d - n), .int .i64 (f)], .bool true]) (by simp [results, Try.results29, go_sem, *]) rfl ⟨ret_val (fsOut_3 HB.out).symm, by repeat (first | (with_reducible exact Below.refl _ _) | (with_reducible assumption) | (with_reducible refine bl_alloc ?_ _) | (with_reducible refine bl_drew ?_) | (with_reducible refine bl_drewN ?_ _) | ((with_reducible refine bl_set ?_ ?hb _); (case hb => first | (simp; done) | omega | (simp; omega))) | (with_reducible refine bl_trans ?_ (by assumption)))⟩
set_option maxHeartbeats 1000000 in
theorem specFile_4 (a b c d f n : Int) (w : World) (h : fsH a b c d f 4 n = true) : Calls Try.prog 28 #[.agg #[.int .i64 a, .int .i64 b, .int .i64 c, .int .i64 d, .int .i64 f], .int .i64 4, .int .i64 n] w fun e w' => e = .returned (fsOut a b c d f 4 n) ∧ Below w.heap.size w w' := by
  have hE := fsB_4 h
  have hh : strikeB a b c d f = true ∧ inB n 1 999 = true ∧ inB 4 0 4 = true := by simpa [fsH, and_assoc, and_comm, and_left_comm] using h
  obtain ⟨h1, h3, h2⟩ := hh
  obtain ⟨⟨a0, a1⟩, ⟨b0, b1⟩, ⟨c0, c1⟩, ⟨d0, d1⟩, f0, f1⟩ := strike_iff.1 h1
  obtain ⟨n0, n1⟩ := inB_iff.1 h3
  rcases h4 : strikeB (a) (b) (c) (d) (f - n) with _ | _
  all_goals
    have HB := Lib.hid (hE.trans h4)
    go_enter Try.func28, Try.ntmps28
    go_wp2_with fail; refine (maGood_any _ _ _ _ _ _).mono ?_; rintro e w1 ⟨rfl, hb⟩
    obtain ⟨hc0, hf0, hz0⟩ := bl_at hb (k := w.heap.size) (by first | assumption | (simp; done) | (simp; omega)); obtain ⟨hc1, hf1, hz1⟩ := bl_at hb (k := w.heap.size + 1) (by first | assumption | (simp; done) | (simp; omega))
    go_wp2_with (first | (go_at_call 48; refine (l1In_any _ _ _ _).mono ?_; rintro e w' ⟨rfl, rfl⟩) | (go_at_call 52; refine (maParts_any _ _ _ _ _ _).mono ?_; rintro e w' ⟨rfl, rfl⟩))
    go_wp2_with (first
      | (go_at_call 53; refine (maOf_any (w1.heap.size + 1) 0 5 5 (a) (b) (c) (d) (f - n) _ (by first | assumption | (simp; done) | (simp; omega)) (by omega) (by go_simp) (by go_simp) (by go_simp) (by go_simp) (by go_simp)).mono ?_; rintro e w' ⟨rfl, hb⟩; obtain ⟨hc1, hf1, hz1⟩ := bl_at hb (k := w.heap.size + 1) (by first | assumption | (simp; done) | (simp; omega)); obtain ⟨hc4, hf4, hz4⟩ := bl_at hb (k := w1.heap.size + 1) (by first | assumption | (simp; done) | (simp; omega)))
      | (go_at_call 45; refine (maGood_any _ _ _ _ _ _).mono ?_; rintro e w' ⟨rfl, hb⟩; obtain ⟨hc1, hf1, hz1⟩ := bl_at hb (k := w.heap.size + 1) (by first | assumption | (simp; done) | (simp; omega)); obtain ⟨hc4, hf4, hz4⟩ := bl_at hb (k := w1.heap.size + 1) (by first | assumption | (simp; done) | (simp; omega))))
  · refine bodyPost_ret (v := .tuple #[.agg #[.int .i64 0, .int .i64 0, .int .i64 0, .int .i64 0, .int .i64 0], .bool false]) (by simp [results, Try.results28, go_sem, *]) rfl ⟨ret_val (fsOut_no HB.out).symm, by repeat (first | (with_reducible exact Below.refl _ _) | (with_reducible assumption) | (with_reducible refine bl_alloc ?_ _) | (with_reducible refine bl_drew ?_) | (with_reducible refine bl_drewN ?_ _) | ((with_reducible refine bl_set ?_ ?hb _); (case hb => first | (simp; done) | omega | (simp; omega))) | (with_reducible refine bl_trans ?_ (by assumption)))⟩
  · refine bodyPost_ret (v := .tuple #[.agg #[.int .i64 (a), .int .i64 (b), .int .i64 (c), .int .i64 (d), .int .i64 (f - n)], .bool true]) (by simp [results, Try.results28, go_sem, *]) rfl ⟨ret_val (fsOut_4 HB.out).symm, by repeat (first | (with_reducible exact Below.refl _ _) | (with_reducible assumption) | (with_reducible refine bl_alloc ?_ _) | (with_reducible refine bl_drew ?_) | (with_reducible refine bl_drewN ?_ _) | ((with_reducible refine bl_set ?_ ?hb _); (case hb => first | (simp; done) | omega | (simp; omega))) | (with_reducible refine bl_trans ?_ (by assumption)))⟩
set_option maxHeartbeats 1000000 in
theorem implFile_4 (a b c d f n : Int) (w : World) (h : fsH a b c d f 4 n = true) : Calls Try.prog 29 #[.agg #[.int .i64 a, .int .i64 b, .int .i64 c, .int .i64 d, .int .i64 f], .int .i64 4, .int .i64 n] w fun e w' => e = .returned (fsOut a b c d f 4 n) ∧ Below w.heap.size w w' := by
  have hE := fsB_4 h
  have hh : strikeB a b c d f = true ∧ inB n 1 999 = true ∧ inB 4 0 4 = true := by simpa [fsH, and_assoc, and_comm, and_left_comm] using h
  obtain ⟨h1, h3, h2⟩ := hh
  obtain ⟨⟨a0, a1⟩, ⟨b0, b1⟩, ⟨c0, c1⟩, ⟨d0, d1⟩, f0, f1⟩ := strike_iff.1 h1
  obtain ⟨n0, n1⟩ := inB_iff.1 h3
  rcases h4 : strikeB (a) (b) (c) (d) (f - n) with _ | _
  all_goals
    have HB := Lib.hid (hE.trans h4)
    go_enter Try.func29, Try.ntmps29
    go_wp2_with fail; refine (implIsStrike_any _ _ _ _ _ _).mono ?_; rintro e w1 ⟨rfl, hb⟩
    obtain ⟨hc0, hf0, hz0⟩ := bl_at hb (k := w.heap.size) (by first | assumption | (simp; done) | (simp; omega)); obtain ⟨hc1, hf1, hz1⟩ := bl_at hb (k := w.heap.size + 1) (by first | assumption | (simp; done) | (simp; omega))
    go_wp2_with (first | (go_at_call 47; refine (within_any _ _ _ _).mono ?_; rintro e w' ⟨rfl, rfl⟩) | (go_at_call 46; refine (parts_any _ _ _ _ _ _).mono ?_; rintro e w' ⟨rfl, rfl⟩))
    refine (strikeOf_any (w1.heap.size + 1) 0 5 5 (a) (b) (c) (d) (f - n) _ (by simp) (by omega) (by go_simp) (by go_simp) (by go_simp) (by go_simp) (by go_simp)).mono ?_
    rintro e w2 ⟨rfl, hb⟩
    obtain ⟨hc1, hf1, hz1⟩ := bl_at hb (k := w.heap.size + 1) (by first | assumption | (simp; done) | (simp; omega))
    go_wp2_with fail; refine (implIsStrike_any _ _ _ _ _ _).mono ?_; rintro e w3 ⟨rfl, hb⟩
    obtain ⟨hc1, hf1, hz1⟩ := bl_at hb (k := w.heap.size + 1) (by first | assumption | (simp; done) | (simp; omega))
    obtain ⟨hc5, hf5, hz5⟩ := bl_at hb (k := w2.heap.size) (by first | assumption | (simp; done) | (simp; omega))
    go_wp2
  · refine bodyPost_ret (v := .tuple #[.agg #[.int .i64 0, .int .i64 0, .int .i64 0, .int .i64 0, .int .i64 0], .bool false]) (by simp [results, Try.results29, go_sem, *]) rfl ⟨ret_val (fsOut_no HB.out).symm, by repeat (first | (with_reducible exact Below.refl _ _) | (with_reducible assumption) | (with_reducible refine bl_alloc ?_ _) | (with_reducible refine bl_drew ?_) | (with_reducible refine bl_drewN ?_ _) | ((with_reducible refine bl_set ?_ ?hb _); (case hb => first | (simp; done) | omega | (simp; omega))) | (with_reducible refine bl_trans ?_ (by assumption)))⟩
  · refine bodyPost_ret (v := .tuple #[.agg #[.int .i64 (a), .int .i64 (b), .int .i64 (c), .int .i64 (d), .int .i64 (f - n)], .bool true]) (by simp [results, Try.results29, go_sem, *]) rfl ⟨ret_val (fsOut_4 HB.out).symm, by repeat (first | (with_reducible exact Below.refl _ _) | (with_reducible assumption) | (with_reducible refine bl_alloc ?_ _) | (with_reducible refine bl_drew ?_) | (with_reducible refine bl_drewN ?_ _) | ((with_reducible refine bl_set ?_ ?hb _); (case hb => first | (simp; done) | omega | (simp; omega))) | (with_reducible refine bl_trans ?_ (by assumption)))⟩
theorem specFile_any (a b c d f p n : Int) (w : World) : Calls Try.prog 28 #[.agg #[.int .i64 a, .int .i64 b, .int .i64 c, .int .i64 d, .int .i64 f], .int .i64 p, .int .i64 n] w fun e w' => e = .returned (fsOut a b c d f p n) ∧ Below w.heap.size w w' := by
  rcases h : fsH a b c d f p n with _ | _
  · exact specFile_no a b c d f p n w h
  · have hp : inB p 0 4 = true ∧ ¬ p = 2 := by
      simp only [fsH, Bool.and_eq_true, Bool.not_eq_true', beq_eq_false_iff_ne] at h
      exact ⟨h.1.1.2, h.1.2⟩
    obtain ⟨p0, p1⟩ := inB_iff.1 hp.1
    have h5 : p = 0 ∨ p = 1 ∨ p = 3 ∨ p = 4 := by have := hp.2; omega
    rcases h5 with rfl | rfl | rfl | rfl
    · exact specFile_0 a b c d f n w h
    · exact specFile_1 a b c d f n w h
    · exact specFile_3 a b c d f n w h
    · exact specFile_4 a b c d f n w h
theorem implFile_any (a b c d f p n : Int) (w : World) : Calls Try.prog 29 #[.agg #[.int .i64 a, .int .i64 b, .int .i64 c, .int .i64 d, .int .i64 f], .int .i64 p, .int .i64 n] w fun e w' => e = .returned (fsOut a b c d f p n) ∧ Below w.heap.size w w' := by
  rcases h : fsH a b c d f p n with _ | _
  · exact implFile_no a b c d f p n w h
  · have hp : inB p 0 4 = true ∧ ¬ p = 2 := by
      simp only [fsH, Bool.and_eq_true, Bool.not_eq_true', beq_eq_false_iff_ne] at h
      exact ⟨h.1.1.2, h.1.2⟩
    obtain ⟨p0, p1⟩ := inB_iff.1 hp.1
    have h5 : p = 0 ∨ p = 1 ∨ p = 3 ∨ p = 4 := by have := hp.2; omega
    rcases h5 with rfl | rfl | rfl | rfl
    · exact implFile_0 a b c d f n w h
    · exact implFile_1 a b c d f n w h
    · exact implFile_3 a b c d f n w h
    · exact implFile_4 a b c d f n w h
theorem fsOut_form (a b c d f p n : Int) : ∃ x0 x1 x2 x3 x4 : Int, ∃ v : Bool, fsOut a b c d f p n = .tuple #[.agg #[.int .i64 x0, .int .i64 x1, .int .i64 x2, .int .i64 x3, .int .i64 x4], .bool v] := ⟨_, _, _, _, _, _, rfl⟩
set_option maxHeartbeats 1000000 in
theorem lawFileStrike (a b c d f p n : Int) (w : World) (_ : I64 a) (_ : I64 b) (_ : I64 c) (_ : I64 d) (_ : I64 f) (_ : I64 p) (_ : I64 n) : Calls Try.prog 9 #[.agg #[.int .i64 a, .int .i64 b, .int .i64 c, .int .i64 d, .int .i64 f], .int .i64 p, .int .i64 n] w fun e w' => e = .returned (.bool (true)) ∧ Below w.heap.size w w' := by
  obtain ⟨x0, x1, x2, x3, x4, v, hv⟩ := fsOut_form a b c d f p n
  have H1 := Lib.hid (fun W => specFile_any a b c d f p n W)
  have H2 := Lib.hid (fun W => implFile_any a b c d f p n W)
  rw [hv] at H1 H2
  clear hv
  go_enter Try.func9, Try.ntmps9
  go_wp2_with fail; refine (toStrike_any _ _ _ _ _ _).mono ?_; rintro e w1 ⟨rfl, hb⟩
  obtain ⟨hc0, hf0, hz0⟩ := bl_at hb (k := w.heap.size) (by first | assumption | (simp; done) | (simp; omega))
  go_wp2_with fail; refine (H1.out _).mono ?_; rintro e w2 ⟨rfl, hb⟩
  obtain ⟨hc0, hf0, hz0⟩ := bl_at hb (k := w.heap.size) (by first | assumption | (simp; done) | (simp; omega))
  go_wp2_with fail; refine (toStrike_any _ _ _ _ _ _).mono ?_; rintro e w3 ⟨rfl, hb⟩
  obtain ⟨hc0, hf0, hz0⟩ := bl_at hb (k := w.heap.size) (by first | assumption | (simp; done) | (simp; omega))
  obtain ⟨hc1, hf1, hz1⟩ := bl_at hb (k := w2.heap.size) (by first | assumption | (simp; done) | (simp; omega))
  go_wp2_with fail; refine (H2.out _).mono ?_; rintro e w4 ⟨rfl, hb⟩
  obtain ⟨hc1, hf1, hz1⟩ := bl_at hb (k := w2.heap.size) (by first | assumption | (simp; done) | (simp; omega))
  go_wp2_with fail; refine (eqStrike_same _ _ _ _ _ _).mono ?_; rintro e w5 ⟨rfl, hb⟩
  go_wp2
  go_ret
  exact ⟨rfl, by repeat (first | (with_reducible exact Below.refl _ _) | (with_reducible assumption) | (with_reducible refine bl_alloc ?_ _) | (with_reducible refine bl_drew ?_) | (with_reducible refine bl_drewN ?_ _) | ((with_reducible refine bl_set ?_ ?hb _); (case hb => first | (simp; done) | omega | (simp; omega))) | (with_reducible refine bl_trans ?_ (by assumption)))⟩
end Go.Proofs.Ytbklljbjggoiaaa
