/-
  Contracts of the closures and of the search for the least number.
-/
import Derived.Test.YtnhdgjcobngolaaMe3
import Derived.Test.YtnhdgjcobngolaaMe8P
namespace Go.Proofs.Ytnhdgjcobngolaa
open Go.RowKit
set_option linter.unusedVariables false
attribute [local go_sem ↓] Go.wp_at_zero Go.wp_at_succ

def soT (l t a p n : Int) : Bool := decide (p * (l + t + a + n) ≤ 1000 * (t + n))
def soA (l t a r n : Int) : Bool := decide (r * (l + t + a + n) ≤ 1000 * (a + n))
def soL (l t a q s n : Int) : Bool := decide (1000 * t ≤ q * (l + t + a + n)) && decide (1000 * a ≤ s * (l + t + a + n))
theorem prod_bd4 {p g : Int} (h0 : 0 ≤ p) (h1 : p ≤ 1000) (g0 : 0 ≤ g) (g1 : g ≤ 4000000) : 0 ≤ p * g ∧ p * g ≤ 4000000000 := by
  refine ⟨Int.mul_nonneg h0 g0, ?_⟩
  have := Int.mul_le_mul h1 g1 g0 (by omega : (0 : Int) ≤ 1000)
  omega
def MeltAt (W : World) (b : Nat) (l t a : Int) : Prop := W.cell? ⟨b, 0, none⟩ = some (.int .i64 l) ∧ W.cell? ⟨b, 1, none⟩ = some (.int .i64 t) ∧ W.cell? ⟨b, 2, none⟩ = some (.int .i64 a)
def BlendAt (W : World) (b : Nat) (p q r s : Int) : Prop := W.cell? ⟨b, 0, none⟩ = some (.int .i64 p) ∧ W.cell? ⟨b, 1, none⟩ = some (.int .i64 q) ∧ W.cell? ⟨b, 2, none⟩ = some (.int .i64 r) ∧ W.cell? ⟨b, 3, none⟩ = some (.int .i64 s)
theorem MeltAt.below {B : Nat} {W w : World} {b : Nat} {l t a : Int} (h : MeltAt W b l t a) (hb : Below B W w) (hl : b < B) : MeltAt w b l t a :=
  ⟨(hb.cell (p := ⟨b, 0, none⟩) hl).trans h.1, (hb.cell (p := ⟨b, 1, none⟩) hl).trans h.2.1, (hb.cell (p := ⟨b, 2, none⟩) hl).trans h.2.2⟩
theorem BlendAt.below {B : Nat} {W w : World} {b : Nat} {p q r s : Int} (h : BlendAt W b p q r s) (hb : Below B W w) (hl : b < B) : BlendAt w b p q r s :=
  ⟨(hb.cell (p := ⟨b, 0, none⟩) hl).trans h.1, (hb.cell (p := ⟨b, 1, none⟩) hl).trans h.2.1, (hb.cell (p := ⟨b, 2, none⟩) hl).trans h.2.2.1, (hb.cell (p := ⟨b, 3, none⟩) hl).trans h.2.2.2⟩

set_option maxHeartbeats 1000000 in
theorem cloT_any (l t a p q r s n : Int) (b1 b2 : Nat) (w : World) (h : meltB l t a = true) (hb : blendB p q r s = true) (n0 : 0 ≤ n) (n1 : n ≤ 1000000) (hm : MeltAt w b1 l t a) (hbl : BlendAt w b2 p q r s) (l1 : b1 < w.heap.size) (l2 : b2 < w.heap.size) :
    Calls Try.prog 58 #[.int .i64 n, .pointer (some ⟨b1, 0, none⟩), .pointer (some ⟨b2, 0, none⟩)] w fun e w' => e = .returned (.bool (soT l t a p n)) ∧ Below w.heap.size w w' := by
  obtain ⟨⟨h1, h2⟩, ⟨h3, h4⟩, h5, h6⟩ := melt_iff.1 h
  obtain ⟨⟨k1, k2, k3⟩, k4, k5, k6⟩ := blend_iff.1 hb
  obtain ⟨u1, u2⟩ := prod_bd4 (p := p) (g := l + t + a + n) (by omega) (by omega) (by omega) (by omega)
  have HM := Lib.hid h
  clear h hb
  obtain ⟨c0, c1, c2⟩ := hm
  obtain ⟨d0, d1, d2, d3⟩ := hbl
  have e1 : IntKind.i64.wrap (t + n) = t + n := IntWalk.i64_in _ (by omega)
  have e2 : IntKind.i64.wrap (1000 * (t + n)) = 1000 * (t + n) := IntWalk.i64_in _ (by omega)
  have e3 : IntKind.i64.wrap (l + t + a + n) = l + t + a + n := IntWalk.i64_in _ (by omega)
  have e4 : IntKind.i64.wrap (p * (l + t + a + n)) = p * (l + t + a + n) := IntWalk.i64_in _ (by omega)
  go_enter Try.func58, Try.ntmps58
  go_wp2_with fail
  go_region_held3 (fun w' => w'.cell? ⟨b1, 0, none⟩ = some (.int .i64 l) ∧ w'.cell? ⟨b1, 1, none⟩ = some (.int .i64 t) ∧ w'.cell? ⟨b1, 2, none⟩ = some (.int .i64 a) ∧ w'.cell? ⟨b2, 0, none⟩ = some (.int .i64 p)) (go_keep) (first | (go_at_call 45; refine (grams_any _ _ _ _ HM.out).mono ?_; rintro e w' ⟨rfl, hb⟩; obtain ⟨hc1, hf1, hz1⟩ := bl_at hb (k := b1) (by first | assumption | (simp; done) | (simp; omega)); obtain ⟨hc2, hf2, hz2⟩ := bl_at hb (k := b2) (by first | assumption | (simp; done) | (simp; omega))))
  clear e1 e2 e3 e4
  go_wp2
  go_ret
  exact ⟨rfl, by repeat (first | (with_reducible exact Below.refl _ _) | (with_reducible assumption) | (with_reducible refine bl_alloc ?_ _) | (with_reducible refine bl_drew ?_) | (with_reducible refine bl_drewN ?_ _) | ((with_reducible refine bl_set ?_ ?hb _); (case hb => first | (simp; done) | omega | (simp; omega))) | (with_reducible refine bl_trans ?_ (by assumption)))⟩
set_option maxHeartbeats 1000000 in
theorem cloA_any (l t a p q r s n : Int) (b1 b2 : Nat) (w : World) (h : meltB l t a = true) (hb : blendB p q r s = true) (n0 : 0 ≤ n) (n1 : n ≤ 1000000) (hm : MeltAt w b1 l t a) (hbl : BlendAt w b2 p q r s) (l1 : b1 < w.heap.size) (l2 : b2 < w.heap.size) :
    Calls Try.prog 57 #[.int .i64 n, .pointer (some ⟨b1, 0, none⟩), .pointer (some ⟨b2, 0, none⟩)] w fun e w' => e = .returned (.bool (soA l t a r n)) ∧ Below w.heap.size w w' := by
  obtain ⟨⟨h1, h2⟩, ⟨h3, h4⟩, h5, h6⟩ := melt_iff.1 h
  obtain ⟨⟨k1, k2, k3⟩, k4, k5, k6⟩ := blend_iff.1 hb
  obtain ⟨u1, u2⟩ := prod_bd4 (p := r) (g := l + t + a + n) (by omega) (by omega) (by omega) (by omega)
  have HM := Lib.hid h
  clear h hb
  obtain ⟨c0, c1, c2⟩ := hm
  obtain ⟨d0, d1, d2, d3⟩ := hbl
  have e1 : IntKind.i64.wrap (a + n) = a + n := IntWalk.i64_in _ (by omega)
  have e2 : IntKind.i64.wrap (1000 * (a + n)) = 1000 * (a + n) := IntWalk.i64_in _ (by omega)
  have e3 : IntKind.i64.wrap (l + t + a + n) = l + t + a + n := IntWalk.i64_in _ (by omega)
  have e4 : IntKind.i64.wrap (r * (l + t + a + n)) = r * (l + t + a + n) := IntWalk.i64_in _ (by omega)
  go_enter Try.func57, Try.ntmps57
  go_wp2_with fail
  go_region_held3 (fun w' => w'.cell? ⟨b1, 0, none⟩ = some (.int .i64 l) ∧ w'.cell? ⟨b1, 1, none⟩ = some (.int .i64 t) ∧ w'.cell? ⟨b1, 2, none⟩ = some (.int .i64 a) ∧ w'.cell? ⟨b2, 2, none⟩ = some (.int .i64 r)) (go_keep) (first | (go_at_call 45; refine (grams_any _ _ _ _ HM.out).mono ?_; rintro e w' ⟨rfl, hb⟩; obtain ⟨hc1, hf1, hz1⟩ := bl_at hb (k := b1) (by first | assumption | (simp; done) | (simp; omega)); obtain ⟨hc2, hf2, hz2⟩ := bl_at hb (k := b2) (by first | assumption | (simp; done) | (simp; omega))))
  clear e1 e2 e3 e4
  go_wp2
  go_ret
  exact ⟨rfl, by repeat (first | (with_reducible exact Below.refl _ _) | (with_reducible assumption) | (with_reducible refine bl_alloc ?_ _) | (with_reducible refine bl_drew ?_) | (with_reducible refine bl_drewN ?_ _) | ((with_reducible refine bl_set ?_ ?hb _); (case hb => first | (simp; done) | omega | (simp; omega))) | (with_reducible refine bl_trans ?_ (by assumption)))⟩
set_option maxHeartbeats 1000000 in
theorem cloL_any (l t a p q r s n : Int) (b1 b2 : Nat) (w : World) (h : meltB l t a = true) (hb : blendB p q r s = true) (n0 : 0 ≤ n) (n1 : n ≤ 1000000) (hm : MeltAt w b1 l t a) (hbl : BlendAt w b2 p q r s) (l1 : b1 < w.heap.size) (l2 : b2 < w.heap.size) :
    Calls Try.prog 61 #[.int .i64 n, .pointer (some ⟨b1, 0, none⟩), .pointer (some ⟨b2, 0, none⟩)] w fun e w' => e = .returned (.bool (soL l t a q s n)) ∧ Below w.heap.size w w' := by
  obtain ⟨⟨h1, h2⟩, ⟨h3, h4⟩, h5, h6⟩ := melt_iff.1 h
  obtain ⟨⟨k1, k2, k3⟩, k4, k5, k6⟩ := blend_iff.1 hb
  obtain ⟨u1, u2⟩ := prod_bd4 (p := q) (g := l + t + a + n) (by omega) (by omega) (by omega) (by omega)
  obtain ⟨v1, v2⟩ := prod_bd4 (p := s) (g := l + t + a + n) (by omega) (by omega) (by omega) (by omega)
  have HM := Lib.hid h
  clear h hb
  obtain ⟨c0, c1, c2⟩ := hm
  obtain ⟨d0, d1, d2, d3⟩ := hbl
  by_cases hq : 1000 * t ≤ q * (l + t + a + n)
  all_goals
    go_enter Try.func61, Try.ntmps61
    go_wp2_with (go_at_call 45; refine (grams_any _ _ _ _ HM.out).mono ?_; rintro e w' ⟨rfl, hb⟩; obtain ⟨hc1, hf1, hz1⟩ := bl_at hb (k := b1) (by first | assumption | (simp; done) | (simp; omega)); obtain ⟨hc2, hf2, hz2⟩ := bl_at hb (k := b2) (by first | assumption | (simp; done) | (simp; omega)))
    go_ret
    exact ⟨ret_bool (by simp [soL]; try omega), by repeat (first | (with_reducible exact Below.refl _ _) | (with_reducible assumption) | (with_reducible refine bl_alloc ?_ _) | (with_reducible refine bl_drew ?_) | (with_reducible refine bl_drewN ?_ _) | ((with_reducible refine bl_set ?_ ?hb _); (case hb => first | (simp; done) | omega | (simp; omega))) | (with_reducible refine bl_trans ?_ (by assumption)))⟩

/-- the end of the search -/
def LeastEnd (so : Int → Bool) (w : World) (e : Ending) (w' : World) : Prop := ((so 1000000 = false ∧ e = .returned (.tuple #[.int .i64 0, .bool false])) ∨ ∃ r, so 1000000 = true ∧ Least so r ∧ e = .returned (.tuple #[.int .i64 r, .bool true])) ∧ Below w.heap.size w w'
set_option maxHeartbeats 1000000 in
theorem leastT_any (so : Int → Bool) (b1 b2 : Nat) (w : World) (hmono : ∀ i j, 0 ≤ i → i ≤ j → j ≤ 1000000 → so i = true → so j = true)
    (hso : ∀ (n : Int) (W : World), 0 ≤ n → n ≤ 1000000 → Below w.heap.size w W → Calls Try.prog 58 #[.int .i64 n, .pointer (some ⟨b1, 0, none⟩), .pointer (some ⟨b2, 0, none⟩)] W fun e W' => e = .returned (.bool (so n)) ∧ Below W.heap.size W W') :
    Calls Try.prog 56 #[.func (.func 58) #[] #[.pointer (some ⟨b1, 0, none⟩), .pointer (some ⟨b2, 0, none⟩)]] w (LeastEnd so w) := by
  have H := Lib.hid hso
  have HM := Lib.hid hmono
  clear hso hmono
  rcases htop : so 1000000 with _ | _
  · have HT := Lib.hid htop
    go_enter Try.func56, Try.ntmps56
    go_wp2_with (go_at_call 58; refine (H.out _ _ (by omega) (by omega) (Below.refl _ _)).mono ?_; rintro e w1 ⟨rfl, hb⟩)
    go_ret2
    exact ⟨.inl ⟨HT.out, rfl⟩, hb⟩
  · have HT := Lib.hid htop
    go_enter Try.func56, Try.ntmps56
    go_wp2_with (go_at_call 58; refine (H.out _ _ (by omega) (by omega) (Below.refl _ _)).mono ?_; rintro e w1 ⟨rfl, hb⟩)
    clear htop
    go_loopw [4, 5, 6] (fun x y _ wr => ∃ lo hi : Int, x = .int .i64 lo ∧ y = .int .i64 hi ∧ 0 ≤ lo ∧ lo ≤ hi ∧ hi ≤ 1000000 ∧ Hid (so hi = true ∧ ∀ j, 0 ≤ j → j < lo → so j = false) ∧ Below w.heap.size w wr) (fun x y _ _ => (intOf y - intOf x).toNat)
    case atStart => exact ⟨0, 1000000, rfl, rfl, by omega, by omega, by omega, ⟨HT.out, fun j h0 h1 => by omega⟩, hb⟩
    case round =>
      obtain ⟨lo, hi, rfl, rfl, h0, h1, h2, HJ, hbl⟩ := hrel
      by_cases hlt : lo < hi
      · have m0 : lo ≤ (lo + hi) / 2 := by omega
        have m1 : (lo + hi) / 2 < hi := by omega
        rcases hmid : so ((lo + hi) / 2) with _ | _
        · have HD := Lib.hid hmid
          go_wp2_with (go_at_call 58; refine (H.out _ _ (by omega) (by omega) hbl).mono ?_; rintro e w2 ⟨rfl, hb2⟩)
          go_roundw
          case rel =>
            refine ⟨_, _, rfl, rfl, by omega, by omega, by omega, ⟨HJ.out.1, fun j j0 j1 => ?_⟩, bl_trans hbl hb2⟩
            rcases hj : so j with _ | _
            · rfl
            · have := HM.out j ((lo + hi) / 2) j0 (by omega) (by omega) hj
              rw [HD.out] at this
              cases this
          case measure => simp [intOf]; omega
        · have HD := Lib.hid hmid
          go_wp2_with (go_at_call 58; refine (H.out _ _ (by omega) (by omega) hbl).mono ?_; rintro e w2 ⟨rfl, hb2⟩)
          go_roundw
          case rel => exact ⟨_, _, rfl, rfl, by omega, by omega, by omega, ⟨HD.out, HJ.out.2⟩, bl_trans hbl hb2⟩
          case measure => simp [intOf]; omega
      · go_wp2
        go_ret2
        obtain rfl : lo = hi := by omega
        exact ⟨.inr ⟨_, HT.out, ⟨h0, h2, HJ.out.1, HJ.out.2⟩, rfl⟩, hbl⟩
set_option maxHeartbeats 1000000 in
theorem leastA_any (so : Int → Bool) (b1 b2 : Nat) (w : World) (hmono : ∀ i j, 0 ≤ i → i ≤ j → j ≤ 1000000 → so i = true → so j = true)
    (hso : ∀ (n : Int) (W : World), 0 ≤ n → n ≤ 1000000 → Below w.heap.size w W → Calls Try.prog 57 #[.int .i64 n, .pointer (some ⟨b1, 0, none⟩), .pointer (some ⟨b2, 0, none⟩)] W fun e W' => e = .returned (.bool (so n)) ∧ Below W.heap.size W W') :
    Calls Try.prog 56 #[.func (.func 57) #[] #[.pointer (some ⟨b1, 0, none⟩), .pointer (some ⟨b2, 0, none⟩)]] w (LeastEnd so w) := by
  have H := Lib.hid hso
  have HM := Lib.hid hmono
  clear hso hmono
  rcases htop : so 1000000 with _ | _
  · have HT := Lib.hid htop
    go_enter Try.func56, Try.ntmps56
    go_wp2_with (go_at_call 57; refine (H.out _ _ (by omega) (by omega) (Below.refl _ _)).mono ?_; rintro e w1 ⟨rfl, hb⟩)
    go_ret2
    exact ⟨.inl ⟨HT.out, rfl⟩, hb⟩
  · have HT := Lib.hid htop
    go_enter Try.func56, Try.ntmps56
    go_wp2_with (go_at_call 57; refine (H.out _ _ (by omega) (by omega) (Below.refl _ _)).mono ?_; rintro e w1 ⟨rfl, hb⟩)
    clear htop
    go_loopw [4, 5, 6] (fun x y _ wr => ∃ lo hi : Int, x = .int .i64 lo ∧ y = .int .i64 hi ∧ 0 ≤ lo ∧ lo ≤ hi ∧ hi ≤ 1000000 ∧ Hid (so hi = true ∧ ∀ j, 0 ≤ j → j < lo → so j = false) ∧ Below w.heap.size w wr) (fun x y _ _ => (intOf y - intOf x).toNat)
    case atStart => exact ⟨0, 1000000, rfl, rfl, by omega, by omega, by omega, ⟨HT.out, fun j h0 h1 => by omega⟩, hb⟩
    case round =>
      obtain ⟨lo, hi, rfl, rfl, h0, h1, h2, HJ, hbl⟩ := hrel
      by_cases hlt : lo < hi
      · have m0 : lo ≤ (lo + hi) / 2 := by omega
        have m1 : (lo + hi) / 2 < hi := by omega
        rcases hmid : so ((lo + hi) / 2) with _ | _
        · have HD := Lib.hid hmid
          go_wp2_with (go_at_call 57; refine (H.out _ _ (by omega) (by omega) hbl).mono ?_; rintro e w2 ⟨rfl, hb2⟩)
          go_roundw
          case rel =>
            refine ⟨_, _, rfl, rfl, by omega, by omega, by omega, ⟨HJ.out.1, fun j j0 j1 => ?_⟩, bl_trans hbl hb2⟩
            rcases hj : so j with _ | _
            · rfl
            · have := HM.out j ((lo + hi) / 2) j0 (by omega) (by omega) hj
              rw [HD.out] at this
              cases this
          case measure => simp [intOf]; omega
        · have HD := Lib.hid hmid
          go_wp2_with (go_at_call 57; refine (H.out _ _ (by omega) (by omega) hbl).mono ?_; rintro e w2 ⟨rfl, hb2⟩)
          go_roundw
          case rel => exact ⟨_, _, rfl, rfl, by omega, by omega, by omega, ⟨HD.out, HJ.out.2⟩, bl_trans hbl hb2⟩
          case measure => simp [intOf]; omega
      · go_wp2
        go_ret2
        obtain rfl : lo = hi := by omega
        exact ⟨.inr ⟨_, HT.out, ⟨h0, h2, HJ.out.1, HJ.out.2⟩, rfl⟩, hbl⟩
set_option maxHeartbeats 1000000 in
theorem leastL_any (so : Int → Bool) (b1 b2 : Nat) (w : World) (hmono : ∀ i j, 0 ≤ i → i ≤ j → j ≤ 1000000 → so i = true → so j = true)
    (hso : ∀ (n : Int) (W : World), 0 ≤ n → n ≤ 1000000 → Below w.heap.size w W → Calls Try.prog 61 #[.int .i64 n, .pointer (some ⟨b1, 0, none⟩), .pointer (some ⟨b2, 0, none⟩)] W fun e W' => e = .returned (.bool (so n)) ∧ Below W.heap.size W W') :
    Calls Try.prog 56 #[.func (.func 61) #[] #[.pointer (some ⟨b1, 0, none⟩), .pointer (some ⟨b2, 0, none⟩)]] w (LeastEnd so w) := by
  have H := Lib.hid hso
  have HM := Lib.hid hmono
  clear hso hmono
  rcases htop : so 1000000 with _ | _
  · have HT := Lib.hid htop
    go_enter Try.func56, Try.ntmps56
    go_wp2_with (go_at_call 61; refine (H.out _ _ (by omega) (by omega) (Below.refl _ _)).mono ?_; rintro e w1 ⟨rfl, hb⟩)
    go_ret2
    exact ⟨.inl ⟨HT.out, rfl⟩, hb⟩
  · have HT := Lib.hid htop
    go_enter Try.func56, Try.ntmps56
    go_wp2_with (go_at_call 61; refine (H.out _ _ (by omega) (by omega) (Below.refl _ _)).mono ?_; rintro e w1 ⟨rfl, hb⟩)
    clear htop
    go_loopw [4, 5, 6] (fun x y _ wr => ∃ lo hi : Int, x = .int .i64 lo ∧ y = .int .i64 hi ∧ 0 ≤ lo ∧ lo ≤ hi ∧ hi ≤ 1000000 ∧ Hid (so hi = true ∧ ∀ j, 0 ≤ j → j < lo → so j = false) ∧ Below w.heap.size w wr) (fun x y _ _ => (intOf y - intOf x).toNat)
    case atStart => exact ⟨0, 1000000, rfl, rfl, by omega, by omega, by omega, ⟨HT.out, fun j h0 h1 => by omega⟩, hb⟩
    case round =>
      obtain ⟨lo, hi, rfl, rfl, h0, h1, h2, HJ, hbl⟩ := hrel
      by_cases hlt : lo < hi
      · have m0 : lo ≤ (lo + hi) / 2 := by omega
        have m1 : (lo + hi) / 2 < hi := by omega
        rcases hmid : so ((lo + hi) / 2) with _ | _
        · have HD := Lib.hid hmid
          go_wp2_with (go_at_call 61; refine (H.out _ _ (by omega) (by omega) hbl).mono ?_; rintro e w2 ⟨rfl, hb2⟩)
          go_roundw
          case rel =>
            refine ⟨_, _, rfl, rfl, by omega, by omega, by omega, ⟨HJ.out.1, fun j j0 j1 => ?_⟩, bl_trans hbl hb2⟩
            rcases hj : so j with _ | _
            · rfl
            · have := HM.out j ((lo + hi) / 2) j0 (by omega) (by omega) hj
              rw [HD.out] at this
              cases this
          case measure => simp [intOf]; omega
        · have HD := Lib.hid hmid
          go_wp2_with (go_at_call 61; refine (H.out _ _ (by omega) (by omega) hbl).mono ?_; rintro e w2 ⟨rfl, hb2⟩)
          go_roundw
          case rel => exact ⟨_, _, rfl, rfl, by omega, by omega, by omega, ⟨HD.out, HJ.out.2⟩, bl_trans hbl hb2⟩
          case measure => simp [intOf]; omega
      · go_wp2
        go_ret2
        obtain rfl : lo = hi := by omega
        exact ⟨.inr ⟨_, HT.out, ⟨h0, h2, HJ.out.1, HJ.out.2⟩, rfl⟩, hbl⟩
end Go.Proofs.Ytnhdgjcobngolaa
