/-
  The standard for strikes: contracts.
-/
import Derived.Test.YtbklljbjggoiaaaMa8
import Derived.Test.YtbklljbjggoiaaaMa4
namespace Go.Proofs.Ytbklljbjggoiaaa
open Go.RowKit
set_option linter.unusedVariables false
attribute [local go_sem ↓] Go.wp_at_zero Go.wp_at_succ

def mn (x y : Int) : Int := if y < x then y else x
theorem mn_min (x y : Int) : mn x y = min x y := by unfold mn; split <;> omega
theorem run_mn {P : Program} {w : World} (ts : Array TypeId) (t : TypeId) (k k' : IntKind) (x y : Int) : (Builtin.min_ ts t #[.int k x, .int k' y]).run P w = .ok (.int k (mn x y)) w := by
  rw [run_min_int2]; rfl
def fld (x : Stk) (j : Nat) : Int := match j with | 0 => x.a | 1 => x.b | 2 => x.c | 3 => x.d | _ => x.f
theorem fld_c (x : Stk) : ∀ j : Nat, cStk x j = .int .i64 (fld x j)
  | 0 => rfl
  | 1 => rfl
  | 2 => rfl
  | 3 => rfl
  | _ + 4 => rfl
def minS (x s : Stk) : Stk := ⟨min x.a s.a, min x.b s.b, x.c, min x.d s.d, min x.f s.f⟩
def stdTo (xs : List Stk) (x : Stk) : Nat → Stk
  | 0 => x
  | k + 1 => match xs[k]? with | some s => minS (stdTo xs x k) s | none => stdTo xs x k
theorem stdTo_snoc {xs : List Stk} {x s : Stk} {k : Nat} (h : xs[k]? = some s) : stdTo xs x (k + 1) = minS (stdTo xs x k) s := by rw [stdTo, h]
theorem stdTo_face (xs : List Stk) (x : Stk) : ∀ k, (stdTo xs x k).c = x.c
  | 0 => rfl
  | k + 1 => by
    rw [stdTo]
    split
    · exact stdTo_face xs x k
    · exact stdTo_face xs x k
def faceB (x s : Stk) : Bool := decide (s.c = x.c)
/-- the standard, and whether there is one -/
def stdOk (xs : List Stk) : Bool := match xs with | [] => false | x :: _ => listB xs && xs.all (faceB x)
def stdV (xs : List Stk) : Stk := match xs with | [] => ⟨0, 0, 0, 0, 0⟩ | x :: _ => if stdOk xs then stdTo xs x xs.length else ⟨0, 0, 0, 0, 0⟩
def stdOut (xs : List Stk) : Value := .tuple #[.agg #[.int .i64 (stdV xs).a, .int .i64 (stdV xs).b, .int .i64 (stdV xs).c, .int .i64 (stdV xs).d, .int .i64 (stdV xs).f], .bool (stdOk xs)]
theorem std_nil {xs : List Stk} (h : xs.length = 0) : stdOut xs = .tuple #[.agg #[.int .i64 0, .int .i64 0, .int .i64 0, .int .i64 0, .int .i64 0], .bool false] := by
  have : xs = [] := List.length_eq_zero_iff.1 h
  subst this
  rfl
theorem std_bad {xs : List Stk} (h : listB xs = false) : stdOut xs = .tuple #[.agg #[.int .i64 0, .int .i64 0, .int .i64 0, .int .i64 0, .int .i64 0], .bool false] := by
  cases xs with
  | nil => rfl
  | cons x r => simp [stdOut, stdV, stdOk, h]
theorem std_face {xs : List Stk} {x s : Stk} {k : Nat} (h0 : xs[0]? = some x) (hs : xs[k]? = some s) (h : faceB x s = false) : stdOut xs = .tuple #[.agg #[.int .i64 0, .int .i64 0, .int .i64 0, .int .i64 0, .int .i64 0], .bool false] := by
  cases xs with
  | nil => rfl
  | cons y r =>
    obtain rfl : y = x := by simpa using h0
    have : stdOk (y :: r) = false := by
      show (listB (y :: r) && (y :: r).all (faceB y)) = false
      rw [all_no hs h, Bool.and_false]
    simp [stdOut, stdV, this]
theorem std_end {xs : List Stk} {x : Stk} {k : Nat} (h0 : xs[0]? = some x) (hk : xs.length = k) (hl : listB xs = true) (h : (xs.take k).all (faceB x) = true) : stdOut xs = .tuple #[.agg #[.int .i64 (stdTo xs x k).a, .int .i64 (stdTo xs x k).b, .int .i64 (stdTo xs x k).c, .int .i64 (stdTo xs x k).d, .int .i64 (stdTo xs x k).f], .bool true] := by
  subst hk
  cases xs with
  | nil => simp at h0
  | cons y r =>
    obtain rfl : y = x := by simpa using h0
    have : stdOk (y :: r) = true := by
      show (listB (y :: r) && (y :: r).all (faceB y)) = true
      rw [hl, all_end (Nat.le_refl _) h]
      rfl
    simp [stdOut, stdV, this]
/-- the parts while the first i are done -/
def mix (x s : Stk) (i j : Nat) : Int := if j < i then min (fld x j) (fld s j) else fld x j
theorem mix_end {x s : Stk} (h : s.c = x.c) : ∀ j, j < 5 → mix x s 5 j = fld (minS x s) j := by
  intro j hj
  match j, hj with
  | 0, _ => rfl
  | 1, _ => rfl
  | 2, _ => simp [mix, fld, minS]; omega
  | 3, _ => rfl
  | 4, _ => rfl
set_option maxHeartbeats 1000000 in
theorem specStd_any (A : Option Addr) (n c B : Nat) (xs : List Stk) (w : World) (hr : Rd cStk 5 w B A n xs) (hB : B ≤ w.heap.size) (hn : n ≤ 1048576) :
    Calls Try.prog 36 #[.slice A n c] w fun e w' => e = .returned (stdOut xs) ∧ Below w.heap.size w w' := by
  have hl := hr.1
  rcases hL : listB xs with _ | _
  · have HL := Lib.hid hL
    have HF := Lib.hid (std_bad hL)
    clear hL
    go_enter Try.func36, Try.ntmps36
    go_wp2_with (go_at_call 56; refine (maList_any _ _ _ _ xs _ (hr.below ((bl_alloc (Below.refl w.heap.size w) _).mono hB)) (by simp; omega) hn).mono ?_; rw [HL.out]; rintro e w1 ⟨rfl, hb⟩; obtain ⟨hc0, hf0, hz0⟩ := bl_at hb (k := w.heap.size) (by first | assumption | (simp; done) | (simp; omega)))
    refine bodyPost_ret (v := .tuple #[.agg #[.int .i64 0, .int .i64 0, .int .i64 0, .int .i64 0, .int .i64 0], .bool false]) (by simp [results, Try.results36, go_sem, *]) rfl ⟨ret_val HF.out.symm, by repeat (first | (with_reducible exact Below.refl _ _) | (with_reducible assumption) | (with_reducible refine bl_alloc ?_ _) | (with_reducible refine bl_drew ?_) | (with_reducible refine bl_drewN ?_ _) | ((with_reducible refine bl_set ?_ ?hb _); (case hb => first | (simp; done) | omega | (simp; omega))) | (with_reducible refine bl_trans ?_ (by assumption)))⟩
  · have HL := Lib.hid hL
    by_cases h0 : n = 0
    · subst h0
      have HF := Lib.hid (std_nil hl)
      clear hL
      go_enter Try.func36, Try.ntmps36
      go_wp2_with (go_at_call 56; refine (maList_any _ _ _ _ xs _ (hr.below ((bl_alloc (Below.refl w.heap.size w) _).mono hB)) (by simp; omega) hn).mono ?_; rw [HL.out]; rintro e w1 ⟨rfl, hb⟩; obtain ⟨hc0, hf0, hz0⟩ := bl_at hb (k := w.heap.size) (by first | assumption | (simp; done) | (simp; omega)))
      refine bodyPost_ret (v := .tuple #[.agg #[.int .i64 0, .int .i64 0, .int .i64 0, .int .i64 0, .int .i64 0], .bool false]) (by simp [results, Try.results36, go_sem, *]) rfl ⟨ret_val HF.out.symm, by repeat (first | (with_reducible exact Below.refl _ _) | (with_reducible assumption) | (with_reducible refine bl_alloc ?_ _) | (with_reducible refine bl_drew ?_) | (with_reducible refine bl_drewN ?_ _) | ((with_reducible refine bl_set ?_ ?hb _); (case hb => first | (simp; done) | omega | (simp; omega))) | (with_reducible refine bl_trans ?_ (by assumption)))⟩
    · have hn0 : 0 < n := by omega
      have hne0 : ((n : Int) == 0) = false := by simp; omega
      clear hL
      go_enter Try.func36, Try.ntmps36
      go_wp2_with fail
      refine (maList_any _ _ _ _ xs _ (hr.below ((bl_alloc (Below.refl w.heap.size w) _).mono hB)) (by simp; omega) hn).mono ?_
      rw [HL.out]
      rintro e w1 ⟨rfl, hb⟩
      obtain ⟨hc0, hf0, hz0⟩ := bl_at hb (k := w.heap.size) (by first | assumption | (simp; done) | (simp; omega))
      have hb1w : Below w.heap.size w w1 := by repeat (first | (with_reducible exact Below.refl _ _) | (with_reducible assumption) | (with_reducible refine bl_alloc ?_ _) | (with_reducible refine bl_drew ?_) | (with_reducible refine bl_drewN ?_ _) | ((with_reducible refine bl_set ?_ ?hb _); (case hb => first | (simp; done) | omega | (simp; omega))) | (with_reducible refine bl_trans ?_ (by assumption)))
      obtain ⟨b0, off0, x, rfl, hb0B, hx, c0, c1, c2, c3, c4⟩ := (hr.below (hb1w.mono hB)).atStk hn0
      simp only [Nat.zero_mul, Nat.add_zero] at c0 c1 c2 c3 c4
      have HX0 := Lib.hid hx
      clear hx
      go_wp2_with (go_at_call 52; refine (maParts_any _ _ _ _ _ _).mono ?_; rintro e w' ⟨rfl, rfl⟩)
      obtain ⟨W, hW⟩ : ∃ W, W = (w1.alloc (.cells #[.int .i64 x.a, .int .i64 x.b, .int .i64 x.c, .int .i64 x.d, .int .i64 x.f] 25)).alloc (.cells #[.int .i64 x.a, .int .i64 x.b, .int .i64 x.c, .int .i64 x.d, .int .i64 x.f] 3) := ⟨_, rfl⟩
      have hP0 : ∀ j, j < 5 → W.cell? ⟨w1.heap.size + 1, j, none⟩ = some (.int .i64 (fld x j)) := by
        intro j hj
        rw [hW, World.cell?_alloc_at _ _ _ _ (by simp)]
        match j, hj with
        | 0, _ => rfl
        | 1, _ => rfl
        | 2, _ => rfl
        | 3, _ => rfl
        | 4, _ => rfl
      have hZ0 : ∀ j, W.frozen? ⟨w1.heap.size + 1, j, none⟩ = false := by
        intro j
        rw [hW]
        simp
      have hR0 : ∀ j, j < 5 → W.cell? ⟨w.heap.size, j, none⟩ = some (.int .i64 0) := by
        intro j hj
        rw [hW, World.cell?_alloc_past _ _ _ (by first | omega | (simp; omega)), World.cell?_alloc_past _ _ _ (by first | omega | (simp; omega)), hc0, World.cell?_alloc_at _ _ _ _ (by simp)]
        match j, hj with
        | 0, _ => rfl
        | 1, _ => rfl
        | 2, _ => rfl
        | 3, _ => rfl
        | 4, _ => rfl
      have hRZ : ∀ j, W.frozen? ⟨w.heap.size, j, none⟩ = false := by
        intro j
        rw [hW, World.frozen?_alloc_past _ _ _ (by first | omega | (simp; omega)), World.frozen?_alloc_past _ _ _ (by first | omega | (simp; omega)), hf0]
        exact World.frozen?_alloc_new _ _ _ _
      have hWs : W.heap.size = w1.heap.size + 1 + 1 := by rw [hW]; simp
      have hbW : Below w.heap.size w W := by rw [hW]; exact by repeat (first | (with_reducible exact Below.refl _ _) | (with_reducible assumption) | (with_reducible refine bl_alloc ?_ _) | (with_reducible refine bl_drew ?_) | (with_reducible refine bl_drewN ?_ _) | ((with_reducible refine bl_set ?_ ?hb _); (case hb => first | (simp; done) | omega | (simp; omega))) | (with_reducible refine bl_trans ?_ (by assumption)))
      rw [← hW]
      have HP0 := Lib.hid hP0
      have HZ0 := Lib.hid hZ0
      have HR0 := Lib.hid hR0
      have HRZ := Lib.hid hRZ
      clear hW hb hc0 hf0 c0 c1 c2 c3 c4 hb1w hP0 hZ0 hR0 hRZ
      go_loopw [24] (fun i wr => ∃ k : Nat, k ≤ n ∧ i = .int .i64 k ∧ W.grownBy wr (some (w1.heap.size + 1)) ∧ Hid (∀ j, j < 5 → wr.cell? ⟨w1.heap.size + 1, j, none⟩ = some (.int .i64 (fld (stdTo xs x k) j))) ∧ Hid (∀ j, wr.frozen? ⟨w1.heap.size + 1, j, none⟩ = false) ∧ Hid ((xs.take k).all (faceB x) = true)) (fun i _ => n - (intOf i).toNat)
      case atStart => exact ⟨0, Nat.zero_le _, rfl, World.grownBy.refl _ _, HP0.out, HZ0.out, rfl⟩
      case round =>
        obtain ⟨k, hk, rfl, hgr, HP, HZ, HA⟩ := hrel
        have hsr := hgr.size
        have hbr : Below w.heap.size w wr := hbW.trans (gr_below hgr (by omega) (by omega))
        have hrr := hr.below (hbr.mono hB)
        obtain ⟨hRc, hRf⟩ := gr_at hgr (k := w.heap.size) (by omega) (by omega)
        have r0 := (hRc 0).trans (HR0.out 0 (by omega))
        have r1 := (hRc 1).trans (HR0.out 1 (by omega))
        have r2 := (hRc 2).trans (HR0.out 2 (by omega))
        have r3 := (hRc 3).trans (HR0.out 3 (by omega))
        have r4 := (hRc 4).trans (HR0.out 4 (by omega))
        have z0 := (hRf 0).trans (HRZ.out 0)
        have z1 := (hRf 1).trans (HRZ.out 1)
        have z2 := (hRf 2).trans (HRZ.out 2)
        have z3 := (hRf 3).trans (HRZ.out 3)
        have z4 := (hRf 4).trans (HRZ.out 4)
        clear hRc hRf
        have hzR : w.heap.size < wr.heap.size := by omega
        have hgR : w1.heap.size + 1 < wr.heap.size := by omega
        have hne : w.heap.size ≠ wr.heap.size := by omega
        have hne' : wr.heap.size ≠ w.heap.size := by omega
        by_cases hlt : k < n
        · obtain ⟨b, off, s, he, hbB, hs, d0, d1, d2, d3, d4⟩ := hrr.atStk hlt
          obtain ⟨rfl, rfl⟩ : b0 = b ∧ off0 = off := by simpa using he
          obtain ⟨b1, off1, x1, he1, _, hx1, _, _, c2, _, _⟩ := hrr.atStk hn0
          obtain ⟨rfl, rfl⟩ : b0 = b1 ∧ off0 = off1 := by simpa using he1
          obtain rfl : x = x1 := by rw [HX0.out] at hx1; exact Option.some.inj hx1
          simp only [Nat.zero_mul, Nat.add_zero] at c2
          have HS := Lib.hid hs
          have HG := Lib.hid hgr
          have HBR := Lib.hid hbr
          have hbw : b0 < wr.heap.size := by omega
          have hbn : b0 ≠ wr.heap.size := by omega
          have hbn' : wr.heap.size ≠ b0 := by omega
          have i0 : (0 : Int) ≤ (k : Int) := by omega
          have i1 : (k : Int) < (n : Int) := by omega
          have j1 : (0 : Int) < (n : Int) := by omega
          clear he he1 hs hx1 hgr hbr hrr
          by_cases hf : s.c = x.c
          · have HF := Lib.hid hf
            have hfb : (s.c != x.c) = false := by simp [hf]
            clear hf
            go_wp2
            go_region_held3 (fun w' => w'.cell? ⟨wr.heap.size, 0, none⟩ = some (.int .i64 s.a) ∧ w'.cell? ⟨wr.heap.size, 1, none⟩ = some (.int .i64 s.b) ∧ w'.cell? ⟨wr.heap.size, 2, none⟩ = some (.int .i64 s.c) ∧ w'.cell? ⟨wr.heap.size, 3, none⟩ = some (.int .i64 s.d) ∧ w'.cell? ⟨wr.heap.size, 4, none⟩ = some (.int .i64 s.f) ∧ w'.cell? ⟨b0, off0 + 2, none⟩ = some (.int .i64 x.c)) (go_keep) (fail)
            obtain ⟨wo, rfl⟩ : ∃ wo : World, wo = wr := ⟨_, rfl⟩
            have HSN := Lib.hid (stdTo_snoc (x := x) HS.out)
            have HFC := Lib.hid (show s.c = (stdTo xs x k).c by rw [stdTo_face]; exact HF.out)
            obtain ⟨p, hp⟩ : ∃ p, stdTo xs x k = p := ⟨_, rfl⟩
            rw [hp] at HP HSN HFC
            have HFA := Lib.hid (all_snoc (p := faceB x) HS.out HA.out (show faceB x s = true from decide_eq_true HF.out))
            clear hp r0 r1 r2 r3 r4 z0 z1 z2 z3 z4 d0 d1 d2 d3 d4 c2
            go_wp2_with (go_at_call 52; refine (maParts_any _ _ _ _ _ _).mono ?_; rintro e w' ⟨rfl, rfl⟩)
            go_loopw [39] (fun i wi => ∃ j : Nat, j ≤ 5 ∧ i = .int .i64 j ∧ W.grownBy wi (some (w1.heap.size + 1)) ∧ Hid (∀ t, t < 5 → wi.cell? ⟨w1.heap.size + 1, t, none⟩ = some (.int .i64 (mix p s j t))) ∧ Hid (∀ t, wi.frozen? ⟨w1.heap.size + 1, t, none⟩ = false) ∧ Hid (∀ t, t < 5 → wi.cell? ⟨wo.heap.size + 1 + 1, t, none⟩ = some (.int .i64 (fld s t))) ∧ wo.heap.size + 1 + 1 < wi.heap.size) (fun i _ => 5 - (intOf i).toNat)
            case atStart =>
              refine ⟨0, by omega, rfl, gr_bl HG.out (by repeat (first | (with_reducible exact Below.refl _ _) | (with_reducible assumption) | (with_reducible refine bl_alloc ?_ _) | (with_reducible refine bl_drew ?_) | (with_reducible refine bl_drewN ?_ _) | ((with_reducible refine bl_set ?_ ?hb _); (case hb => first | (simp; done) | omega | (simp; omega))) | (with_reducible refine bl_trans ?_ (by assumption)))), fun t ht => ((bl_at (W := wo) (by repeat (first | (with_reducible exact Below.refl _ _) | (with_reducible assumption) | (with_reducible refine bl_alloc ?_ _) | (with_reducible refine bl_drew ?_) | (with_reducible refine bl_drewN ?_ _) | ((with_reducible refine bl_set ?_ ?hb _); (case hb => first | (simp; done) | omega | (simp; omega))) | (with_reducible refine bl_trans ?_ (by assumption)))) hgR).1 t).trans (HP.out t ht), fun t => ((bl_at (W := wo) (by repeat (first | (with_reducible exact Below.refl _ _) | (with_reducible assumption) | (with_reducible refine bl_alloc ?_ _) | (with_reducible refine bl_drew ?_) | (with_reducible refine bl_drewN ?_ _) | ((with_reducible refine bl_set ?_ ?hb _); (case hb => first | (simp; done) | omega | (simp; omega))) | (with_reducible refine bl_trans ?_ (by assumption)))) hgR).2.1 t).trans (HZ.out t), fun t ht => ?_, by simp⟩
              match t, ht with
              | 0, _ => go_simp; rfl
              | 1, _ => go_simp; rfl
              | 2, _ => go_simp; rfl
              | 3, _ => go_simp; rfl
              | 4, _ => go_simp; rfl
            case round =>
              obtain ⟨j, hj, rfl, hgi, HPI, HZI, HSI, hsi⟩ := hrel
              by_cases hlj : j < 5
              · have q0 := HPI.out j hlj
                have q1 := HSI.out j hlj
                have q2 := HZI.out j
                have q3 : w1.heap.size + 1 < wr.heap.size := by omega
                have hm : mix p s j j = fld p j := by simp [mix]
                rw [hm] at q0
                have HGI := Lib.hid hgi
                have j0 : (0 : Int) ≤ (j : Int) := by omega
                have j5 : (j : Int) < 5 := by omega
                clear hgi hm
                go_wp2_with (go_at_call 49; refine (l1Least_any _ _ _).mono ?_; rintro e w' ⟨rfl, rfl⟩)
                go_roundw
                case rel =>
                  refine ⟨j + 1, by omega, by go_num, gr_set HGI.out _ _, fun t ht => ?_, fun t => by rw [World.frozen?_setCell]; exact HZI.out t, fun t ht => ?_, by simpa [World.setCell] using hsi⟩
                  · by_cases htj : t = j
                    · subst htj
                      rw [show mix p s (t + 1) t = min (fld p t) (fld s t) by simp [mix]]
                      exact World.cell?_setCell_same _ _ _ q0
                    · rw [World.cell?_setCell_other _ _ _ _ (by first | (simp; done) | (simp; omega)), HPI.out t ht]
                      have : mix p s (j + 1) t = mix p s j t := by
                        unfold mix
                        by_cases h1 : t < j
                        · rw [if_pos h1, if_pos (by omega)]
                        · rw [if_neg h1, if_neg (by omega)]
                      rw [this]
                  · rw [World.cell?_setCell_other _ _ _ _ (by first | (simp; done) | (simp; omega))]
                    exact HSI.out t ht
                case measure => simp [intOf]; omega
              · obtain rfl : j = 5 := by omega
                have HGI := Lib.hid hgi
                clear hgi
                go_wp2
                go_roundw
                case rel => exact ⟨k + 1, by omega, by go_num, HGI.out, fun t ht => by rw [HPI.out t ht, HSN.out, mix_end HFC.out t ht], HZI.out, HFA.out⟩
                case measure => simp [intOf]; omega
          · have HF := Lib.hid hf
            have hfb : (s.c != x.c) = true := by simp [hf]
            have HE := Lib.hid (std_face HX0.out HS.out (show faceB x s = false by simp [faceB, hf]))
            clear hf
            go_wp2
            go_region_held3 (fun w' => w'.cell? ⟨wr.heap.size, 0, none⟩ = some (.int .i64 s.a) ∧ w'.cell? ⟨wr.heap.size, 1, none⟩ = some (.int .i64 s.b) ∧ w'.cell? ⟨wr.heap.size, 2, none⟩ = some (.int .i64 s.c) ∧ w'.cell? ⟨wr.heap.size, 3, none⟩ = some (.int .i64 s.d) ∧ w'.cell? ⟨wr.heap.size, 4, none⟩ = some (.int .i64 s.f) ∧ w'.cell? ⟨b0, off0 + 2, none⟩ = some (.int .i64 x.c)) (go_keep) (fail)
            go_wp2
            have hbx := HBR.out
            (try simp only [Exit.inBlock, Exit.then])
            refine bodyPost_ret (v := .tuple #[.agg #[.int .i64 0, .int .i64 0, .int .i64 0, .int .i64 0, .int .i64 0], .bool false]) (by simp [results, Try.results36, go_sem, *]) rfl ⟨ret_val HE.out.symm, by repeat (first | (with_reducible exact Below.refl _ _) | (with_reducible assumption) | (with_reducible refine bl_alloc ?_ _) | (with_reducible refine bl_drew ?_) | (with_reducible refine bl_drewN ?_ _) | ((with_reducible refine bl_set ?_ ?hb _); (case hb => first | (simp; done) | omega | (simp; omega))) | (with_reducible refine bl_trans ?_ (by assumption)))⟩
        · obtain rfl : k = n := by omega
          have HE := Lib.hid (std_end HX0.out hl HL.out HA.out)
          obtain ⟨p, hp⟩ : ∃ p, stdTo xs x k = p := ⟨_, rfl⟩
          rw [hp] at HP HE
          have HBR := Lib.hid hbr
          clear hp hgr hbr hrr
          go_wp2_with fail
          refine (maOf_any (w1.heap.size + 1) 0 5 5 p.a p.b p.c p.d p.f wr hgR (by omega) (HP.out 0 (by omega)) (HP.out 1 (by omega)) (HP.out 2 (by omega)) (HP.out 3 (by omega)) (HP.out 4 (by omega))).mono ?_
          rintro e w2 ⟨rfl, hb⟩
          obtain ⟨hc1, hf1, hz1⟩ := bl_at hb (k := w.heap.size) (by first | assumption | (simp; done) | (simp; omega))
          have HB2 := Lib.hid (bl_trans HBR.out hb)
          clear hb
          go_wp2
          have hbx := HB2.out
          (try simp only [Exit.inBlock, Exit.then])
          refine bodyPost_ret (v := .tuple #[.agg #[.int .i64 p.a, .int .i64 p.b, .int .i64 p.c, .int .i64 p.d, .int .i64 p.f], .bool true]) (by simp [results, Try.results36, go_sem, *]) rfl ⟨ret_val HE.out.symm, by repeat (first | (with_reducible exact Below.refl _ _) | (with_reducible assumption) | (with_reducible refine bl_alloc ?_ _) | (with_reducible refine bl_drew ?_) | (with_reducible refine bl_drewN ?_ _) | ((with_reducible refine bl_set ?_ ?hb _); (case hb => first | (simp; done) | omega | (simp; omega))) | (with_reducible refine bl_trans ?_ (by assumption)))⟩
end Go.Proofs.Ytbklljbjggoiaaa
