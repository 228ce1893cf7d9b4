/-
  Numbers as text: l1Num and strconv.Itoa give the same decimal digits.
-/
import Derived.Test.YtgfobchpkjpiiaaDoorOwn
import Derived.Test.YtgfobchpkjpiiaaDoorCom
import Derived.Test.YtgfobchpkjpiiaaDoorNum
import Derived.Test.YtgfobchpkjpiiaaDoorShelf
import Derived.Laws.IdiomStrings
import Derived.Laws.Concat
import Derived.Test.YtgfobchpkjpiiaaDoorTko
import Derived.Deep.DrawnRows
namespace Go.Proofs.YtgfobchpkjpiiaaDoor
open Go.RowKit
set_option linter.unusedVariables false
attribute [local go_sem ↓] Go.wp_at_zero Go.wp_at_succ

/-- the decimal digits of a number -/
@[irreducible] def numS (n : Nat) : ByteArray := ⟨(Lib.decDigits n).toArray⟩
@[irreducible] def oneB (x : Int) : ByteArray := ⟨#[UInt8.ofNat x.toNat]⟩
/-- nothing need be held -/
def Tru : Prop := True
theorem tru : Tru := trivial
theorem numS_eq (n : Nat) : numS n = ⟨(Lib.decDigits n).toArray⟩ := by unfold numS; rfl
theorem oneB_size (x : Int) : (oneB x).size = 1 := by unfold oneB; rfl
theorem numS_small {n : Nat} (h : n < 10) : numS n = oneB (48 + n) := by
  rw [numS_eq]; unfold oneB; rw [Lib.decDigits, dif_pos h]
  have : (48 + (n : Int)).toNat = 48 + n := by omega
  rw [this]
theorem bytes_app (a b : List UInt8) : (⟨a.toArray⟩ : ByteArray) ++ ⟨b.toArray⟩ = ⟨(a ++ b).toArray⟩ := by
  apply ByteArray.ext
  rw [ByteArray.data_append]
  simp
theorem numS_big {n : Nat} (h : ¬ n < 10) : numS n = numS (n / 10) ++ oneB (48 + n % 10) := by
  rw [numS_eq, numS_eq]; unfold oneB
  rw [Lib.decDigits, dif_neg h]
  have : (48 + (n : Int) % 10).toNat = 48 + n % 10 := by omega
  rw [this]
  exact (bytes_app _ _).symm
theorem dec_len : ∀ (k n : Nat), n < 10 ^ (k + 1) → (Lib.decDigits n).length ≤ k + 1
  | 0, n, h => by rw [Lib.decDigits, dif_pos (by simpa using h)]; simp
  | k + 1, n, h => by
    rw [Lib.decDigits]
    split
    · simp
    · have h2 : n / 10 < 10 ^ (k + 1) := by
        rw [Nat.div_lt_iff_lt_mul (by decide), ← Nat.pow_succ]; exact h
      have := dec_len k (n / 10) h2
      simp; omega
theorem numS_size {n : Nat} (h : n < 1000000000000) : (numS n).size ≤ 12 := by
  rw [numS_eq]
  have := dec_len 11 n (by omega)
  simpa [ByteArray.size] using this
theorem conv_one {W : World} {g : Nat} {x : Int} (hc : W.cell? ⟨g, 0, none⟩ = some (.int .u8 x)) (h0 : 0 ≤ x) (h1 : x < 256) : (convert 100 9 (.slice (some ⟨g, 0, none⟩) 1 1)).run Tryd.prog W = .ok (.string (oneB x)) W := by
  have := run_convert_bytes_back (P := Tryd.prog) W 100 9 5 ⟨g, 0, none⟩ 1 [UInt8.ofNat x.toNat] Tryd.underlying100 Tryd.underlying5 Tryd.underlying9 (fun j hj => by
    have : j = 0 := by simpa using hj
    subst this
    have e : ((UInt8.ofNat x.toNat).toNat : Int) = x := by simp; omega
    show W.cell? (⟨g, 0, none⟩ : Addr) = some (.int .u8 (((UInt8.ofNat x.toNat).toNat : Nat) : Int))
    rw [e]; exact hc)
  unfold oneB
  exact this
attribute [local go_sem high] conv_one
set_option maxHeartbeats 2000000 in
theorem l1Num_small (n : Nat) (h : n < 10) (w : World) : Calls Tryd.prog 60 #[.int .i64 n] w fun e w' => e = .returned (.string (numS n)) ∧ Below w.heap.size w w' := by
  have HS := Lib.hid (numS_small h)
  have hlt : (n : Int) < 10 := by omega
  have h0 : (0 : Int) ≤ 48 + n := by omega
  have h1 : (48 : Int) + n < 256 := by omega
  have hw : IntKind.u8.wrap (48 + (n : Int)) = 48 + n := by simp [IntKind.wrap, IntKind.bits, IntKind.signed]; omega
  go_enter Tryd.func60, Tryd.ntmps60
  go_wp2
  go_ret
  rw [HS.out]
  exact ⟨rfl, by repeat (first | (with_reducible exact Below.refl _ _) | (with_reducible assumption) | (with_reducible refine bl_alloc ?_ _) | (with_reducible refine bl_drew ?_) | (with_reducible refine bl_drewN ?_ _) | ((with_reducible refine bl_set ?_ ?hb _); (case hb => first | (simp; done) | omega | (simp; omega))) | (with_reducible refine bl_trans ?_ (by assumption)))⟩
set_option maxHeartbeats 2000000 in
theorem l1Num_step (n : Nat) (h : ¬ n < 10) (hn : n < 1000000000000) (ih : ∀ (w : World), Calls Tryd.prog 60 #[.int .i64 (n / 10 : Nat)] w fun e w' => e = .returned (.string (numS (n / 10))) ∧ Below w.heap.size w w') (w : World) :
    Calls Tryd.prog 60 #[.int .i64 n] w fun e w' => e = .returned (.string (numS n)) ∧ Below w.heap.size w w' := by
  have HS := Lib.hid (numS_big h)
  have IH := Lib.hid ih
  have hlt : ¬ (n : Int) < 10 := by omega
  have hm : (n : Int).tmod 10 = n % 10 := by rw [Int.tmod_eq_emod_of_nonneg (by omega)]
  have hq : (n : Int).tdiv 10 = (n : Int) / 10 := by rw [Int.tdiv_eq_ediv_of_nonneg (by omega)]
  obtain ⟨m, hm2⟩ : ∃ m : Nat, n / 10 = m := ⟨_, rfl⟩
  have hq2 : (n : Int) / 10 = (m : Int) := by omega
  obtain ⟨d, hd⟩ : ∃ d : Int, (n : Int) % 10 = d := ⟨_, rfl⟩
  have d0 : 0 ≤ d ∧ d < 10 := by omega
  have h0 : (0 : Int) ≤ 48 + d := by omega
  have h1 : (48 : Int) + d < 256 := by omega
  have hw : IntKind.u8.wrap (48 + d) = 48 + d := by simp [IntKind.wrap, IntKind.bits, IntKind.signed]; omega
  have hwm : IntKind.i64.wrap (m : Int) = m := by simp [IntKind.wrap, IntKind.bits, IntKind.signed]; omega
  have hwd : IntKind.i64.wrap (48 + d) = 48 + d := by simp [IntKind.wrap, IntKind.bits, IntKind.signed]; omega
  rw [hm2] at IH HS
  rw [hd] at HS
  have hs1 := numS_size (n := m) (by omega)
  have hs2 := oneB_size (48 + d)
  have hsum : ¬ 9223372036854775807 < (numS m).size + 1 := by omega
  have htt := tru
  clear ih h hm2
  go_enter Tryd.func60, Tryd.ntmps60
  go_wp2_with fail
  refine wp_region_noPanic ?_
  refine wp_region_held_drew (S := (fun _ => Tru)) (by kernel_rfl) (by (try dsimp only); go_keep) (fun hHeld => ?_)
  refine take_of (some 10) (i := 0) (v := ?vq1_0) rfl rfl (by kernel_rfl) (by kernel_rfl) (by kernel_rfl) (fun _ _ _ h => h) (Or.inl ⟨by rfl, ?hyq1_0⟩) (by assumption) ?restq1_0
  case hyq1_0 => (intro w hSw; (try dsimp only at hSw); go_simp; try with_reducible rfl)
  try simp only [Act.put, List.setIfInBounds_toArray, List.set_cons_zero, List.set_cons_succ]
  refine take_of (some 11) (i := 1) (v := ?vq1_1) rfl rfl (by kernel_rfl) (by kernel_rfl) (by kernel_rfl) (fun _ _ _ h => h) (Or.inl ⟨by rfl, ?hyq1_1⟩) (by assumption) ?restq1_1
  case hyq1_1 => (intro w hSw; (try dsimp only at hSw); go_simp; try with_reducible rfl)
  try simp only [Act.put, List.setIfInBounds_toArray, List.set_cons_zero, List.set_cons_succ]
  refine take_of (some 13) (i := 3) (v := ?vq1_3) rfl rfl (by kernel_rfl) (by kernel_rfl) (by kernel_rfl) (fun _ _ _ h => h) (Or.inl ⟨by rfl, ?hyq1_3⟩) (by assumption) ?restq1_3
  case hyq1_3 => (intro w hSw; (try dsimp only at hSw); go_simp; try with_reducible rfl)
  try simp only [Act.put, List.setIfInBounds_toArray, List.set_cons_zero, List.set_cons_succ]
  refine take_of (some 14) (i := 4) (v := ?vq1_4) rfl rfl (by kernel_rfl) (by kernel_rfl) (by kernel_rfl) (fun _ _ _ h => h) (Or.inl ⟨by rfl, ?hyq1_4⟩) (by assumption) ?restq1_4
  case hyq1_4 => (intro w hSw; (try dsimp only at hSw); go_simp; try with_reducible rfl)
  try simp only [Act.put, List.setIfInBounds_toArray, List.set_cons_zero, List.set_cons_succ]
  refine take_of (some 15) (i := 5) (v := ?vq1_5) rfl rfl (by kernel_rfl) (by kernel_rfl) (by kernel_rfl) (fun _ _ _ h => h) (Or.inl ⟨by rfl, ?hyq1_5⟩) (by assumption) ?restq1_5
  case hyq1_5 => (intro w hSw; (try dsimp only at hSw); go_simp; try with_reducible rfl)
  try simp only [Act.put, List.setIfInBounds_toArray, List.set_cons_zero, List.set_cons_succ]
  refine take_of (some 16) (i := 6) (v := ?vq1_6) rfl rfl (by kernel_rfl) (by kernel_rfl) (by kernel_rfl) (fun _ _ _ h => h) (Or.inl ⟨by rfl, ?hyq1_6⟩) (by assumption) ?restq1_6
  case hyq1_6 => (intro w hSw; (try dsimp only at hSw); go_simp; try with_reducible rfl)
  try simp only [Act.put, List.setIfInBounds_toArray, List.set_cons_zero, List.set_cons_succ]
  refine wpAnyH_ready (rs := [2,7]) (by kernel_rfl) (by simp) ?_
  refine AllReadyH.cons rfl (fun K hK => ?_) (AllReadyH.cons rfl (fun K hK => ?_) (AllReadyH.nil))
  · go_simp
    (go_at_call 60; refine (IH.out _).mono ?_; rintro e w3 ⟨rfl, hb⟩; have hsz := hb.size; have HB := Lib.hid ((bl_drew (Below.refl w.heap.size w)).trans hb); clear hb)
    go_wp2_with fail
    refine hK.out _ _ (by (try dsimp only); go_keep) (fun hHeld => ?_)
    clear hK K
    try simp only [Act.put, List.setIfInBounds_toArray, List.set_cons_zero, List.set_cons_succ]
    refine wpAnyH_ready (rs := [7]) (by kernel_rfl) (by simp) ?_
    refine AllReadyH.cons rfl (fun K hK => ?_) AllReadyH.nil
    go_simp
    (skip)
    go_wp2_with fail
    refine hK.out _ _ (by (try dsimp only); go_keep) (fun hHeld => ?_)
    clear hK K
    try simp only [Act.put, List.setIfInBounds_toArray, List.set_cons_zero, List.set_cons_succ]
    refine wpAnyH_ready (rs := [8]) (by kernel_rfl) (by simp) ?_
    refine AllReadyH.cons rfl (fun K hK => ?_) AllReadyH.nil
    go_simp
    (skip)
    go_wp2_with fail
    refine hK.out _ _ (by (try dsimp only); go_keep) (fun hHeld => ?_)
    clear hK K
    try simp only [Act.put, List.setIfInBounds_toArray, List.set_cons_zero, List.set_cons_succ]
    refine take_of (some 19) (i := 9) (v := ?vq2_9) rfl rfl (by kernel_rfl) (by kernel_rfl) (by kernel_rfl) (fun _ _ _ h => h) (Or.inl ⟨by rfl, ?hyq2_9⟩) (by assumption) ?restq2_9
    case hyq2_9 => (intro w hSw; (try dsimp only at hSw); go_simp; try with_reducible rfl)
    try simp only [Act.put, List.setIfInBounds_toArray, List.set_cons_zero, List.set_cons_succ]
    refine take_of (some 2) (i := 10) (v := ?vq2_10) rfl rfl (by kernel_rfl) (by kernel_rfl) (by kernel_rfl) (fun _ _ _ h => h) (Or.inl ⟨by rfl, ?hyq2_10⟩) (by assumption) ?restq2_10
    case hyq2_10 => (intro w hSw; (try dsimp only at hSw); go_simp; try with_reducible rfl)
    try simp only [Act.put, List.setIfInBounds_toArray, List.set_cons_zero, List.set_cons_succ]
    refine wpAnyH_done (by kernel_rfl) ?_ _
    refine NoPanic.normal ?_
    go_wp2
    go_ret
    rw [HS.out]
    first | exact ⟨rfl, HB.out⟩ | exact ⟨rfl, bl_alloc HB.out _⟩
  · go_simp
    (skip)
    go_wp2_with fail
    refine hK.out _ _ (by (try dsimp only); go_keep) (fun hHeld => ?_)
    clear hK K
    try simp only [Act.put, List.setIfInBounds_toArray, List.set_cons_zero, List.set_cons_succ]
    refine wpAnyH_ready (rs := [2,8]) (by kernel_rfl) (by simp) ?_
    refine AllReadyH.cons rfl (fun K hK => ?_) (AllReadyH.cons rfl (fun K hK => ?_) (AllReadyH.nil))
    · go_simp
      (go_at_call 60; refine (IH.out _).mono ?_; rintro e w3 ⟨rfl, hb⟩; have hc3 : w3.cell? ⟨w.heap.size, 0, none⟩ = some (.int .u8 (48 + d)) := (hb.cell (p := ⟨w.heap.size, 0, none⟩) (by simp)).trans (by simp); have hsz : w.heap.size ≤ w3.heap.size := (bl_trans (bl_drew (bl_alloc (Below.refl w.heap.size w) _)) hb).size; have HB := Lib.hid (bl_trans (bl_drew (bl_alloc (Below.refl w.heap.size w) _)) hb); clear hb)
      go_wp2_with fail
      refine hK.out _ _ (by (try dsimp only); go_keep) (fun hHeld => ?_)
      clear hK K
      try simp only [Act.put, List.setIfInBounds_toArray, List.set_cons_zero, List.set_cons_succ]
      refine wpAnyH_ready (rs := [8]) (by kernel_rfl) (by simp) ?_
      refine AllReadyH.cons rfl (fun K hK => ?_) AllReadyH.nil
      go_simp
      (skip)
      go_wp2_with fail
      refine hK.out _ _ (by (try dsimp only); go_keep) (fun hHeld => ?_)
      clear hK K
      try simp only [Act.put, List.setIfInBounds_toArray, List.set_cons_zero, List.set_cons_succ]
      refine take_of (some 19) (i := 9) (v := ?vq4_9) rfl rfl (by kernel_rfl) (by kernel_rfl) (by kernel_rfl) (fun _ _ _ h => h) (Or.inl ⟨by rfl, ?hyq4_9⟩) (by assumption) ?restq4_9
      case hyq4_9 => (intro w hSw; (try dsimp only at hSw); go_simp; try with_reducible rfl)
      try simp only [Act.put, List.setIfInBounds_toArray, List.set_cons_zero, List.set_cons_succ]
      refine take_of (some 2) (i := 10) (v := ?vq4_10) rfl rfl (by kernel_rfl) (by kernel_rfl) (by kernel_rfl) (fun _ _ _ h => h) (Or.inl ⟨by rfl, ?hyq4_10⟩) (by assumption) ?restq4_10
      case hyq4_10 => (intro w hSw; (try dsimp only at hSw); go_simp; try with_reducible rfl)
      try simp only [Act.put, List.setIfInBounds_toArray, List.set_cons_zero, List.set_cons_succ]
      refine wpAnyH_done (by kernel_rfl) ?_ _
      refine NoPanic.normal ?_
      go_wp2
      go_ret
      rw [HS.out]
      first | exact ⟨rfl, HB.out⟩ | exact ⟨rfl, bl_alloc HB.out _⟩
    · go_simp
      (skip)
      go_wp2_with fail
      refine hK.out _ _ (by (try dsimp only); go_keep) (fun hHeld => ?_)
      clear hK K
      try simp only [Act.put, List.setIfInBounds_toArray, List.set_cons_zero, List.set_cons_succ]
      refine wpAnyH_ready (rs := [2]) (by kernel_rfl) (by simp) ?_
      refine AllReadyH.cons rfl (fun K hK => ?_) AllReadyH.nil
      go_simp
      (go_at_call 60; refine (IH.out _).mono ?_; rintro e w3 ⟨rfl, hb⟩; have hsz : w.heap.size ≤ w3.heap.size := (bl_trans (bl_drew (bl_alloc (Below.refl w.heap.size w) _)) hb).size; have HB := Lib.hid (bl_trans (bl_drew (bl_alloc (Below.refl w.heap.size w) _)) hb); clear hb)
      go_wp2_with fail
      refine hK.out _ _ (by (try dsimp only); go_keep) (fun hHeld => ?_)
      clear hK K
      try simp only [Act.put, List.setIfInBounds_toArray, List.set_cons_zero, List.set_cons_succ]
      refine take_of (some 19) (i := 9) (v := ?vq5_9) rfl rfl (by kernel_rfl) (by kernel_rfl) (by kernel_rfl) (fun _ _ _ h => h) (Or.inl ⟨by rfl, ?hyq5_9⟩) (by assumption) ?restq5_9
      case hyq5_9 => (intro w hSw; (try dsimp only at hSw); go_simp; try with_reducible rfl)
      try simp only [Act.put, List.setIfInBounds_toArray, List.set_cons_zero, List.set_cons_succ]
      refine take_of (some 2) (i := 10) (v := ?vq5_10) rfl rfl (by kernel_rfl) (by kernel_rfl) (by kernel_rfl) (fun _ _ _ h => h) (Or.inl ⟨by rfl, ?hyq5_10⟩) (by assumption) ?restq5_10
      case hyq5_10 => (intro w hSw; (try dsimp only at hSw); go_simp; try with_reducible rfl)
      try simp only [Act.put, List.setIfInBounds_toArray, List.set_cons_zero, List.set_cons_succ]
      refine wpAnyH_done (by kernel_rfl) ?_ _
      refine NoPanic.normal ?_
      go_wp2
      go_ret
      rw [HS.out]
      first | exact ⟨rfl, HB.out⟩ | exact ⟨rfl, bl_alloc HB.out _⟩
theorem l1Num_any : ∀ (n : Nat), n < 1000000000000 → ∀ (w : World), Calls Tryd.prog 60 #[.int .i64 n] w fun e w' => e = .returned (.string (numS n)) ∧ Below w.heap.size w w' := by
  intro n
  induction n using Nat.strongRecOn with
  | _ n ih =>
    intro hn w
    by_cases h : n < 10
    · exact l1Num_small n h w
    · exact l1Num_step n h hn (ih (n / 10) (by omega) (by omega)) w
theorem below_growN (w : World) (k : Nat) (os : Array Obj) : Below w.heap.size w (Go.Sort.grow (w.drewN k) os) :=
  ⟨rfl, rfl, rfl, by simp [Go.Sort.grow, World.drewN], fun i hi => by simp [Go.Sort.grow, World.drewN, Array.getElem?_append_left hi]⟩
/-- strconv.Itoa of a number that is not negative -/
theorem itoa_any (n : Nat) (hn : n < 1000000000000) (w : World) (ht : Lib.TabIs Tryd.prog w "internal/strconv.uint64pow10" .u64 Lib.pow10Tab) :
    Calls Tryd.prog 57 #[.int .i64 n] w fun e w' => e = .returned (.string (numS n)) ∧ Below w.heap.size w w' := by
  refine (Tryd.strconv_Itoa (n : Int) (by omega) (by omega) w ht).mono ?_
  rintro e w' ⟨rfl, k, os, rfl⟩
  refine ⟨?_, ?_⟩
  · rw [numS_eq]
    have : Lib.itoa (n : Int) = Lib.decDigits n := by unfold Lib.itoa; rw [if_neg (by omega)]; rfl
    rw [this]
  · exact below_growN w k os
end Go.Proofs.YtgfobchpkjpiiaaDoor
