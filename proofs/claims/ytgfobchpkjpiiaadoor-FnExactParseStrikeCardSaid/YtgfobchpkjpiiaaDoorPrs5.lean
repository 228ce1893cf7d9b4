/-
  A melt parsed: the plain law, the implementation and the law's walk.
-/
import Derived.Test.YtgfobchpkjpiiaaDoorPrs4
namespace Go.Proofs.YtgfobchpkjpiiaaDoor
open Go.RowKit
set_option linter.unusedVariables false
attribute [local go_sem ↓] Go.wp_at_zero Go.wp_at_succ

theorem join_mem {W : List (List UInt8)} {sep : List UInt8} {x : UInt8} (h : x ∈ Lib.join W sep) : x ∈ sep ∨ ∃ v ∈ W, x ∈ v := by
  cases W with
  | nil => rw [Lib.join_nil] at h; cases h
  | cons u t =>
    rw [Lib.join_cons, List.mem_append] at h
    rcases h with h | h
    · exact .inr ⟨u, List.mem_cons_self .., h⟩
    · unfold Lib.joinTail at h
      rw [List.mem_flatten] at h
      obtain ⟨l, hl, hx⟩ := h
      obtain ⟨v, hv, rfl⟩ := List.mem_map.1 hl
      rw [List.mem_append] at hx
      rcases hx with hx | hx
      · exact .inl hx
      · exact .inr ⟨v, List.mem_cons_of_mem _ hv, hx⟩
theorem nonDig_no {x : Nat} (h : 48 ≤ x ∧ x ≤ 57) : nonDig x = false := by
  unfold nonDig
  rw [decide_eq_false (by omega), decide_eq_false (by omega)]; rfl
theorem fields_join {s : ByteArray} {b : UInt8} {l : Nat} {L : List Nat} (hb : nonDig b.toNat = true) (h128 : b.toNat < 128) (h : s.data.toList = Lib.join ((l :: L).map Lib.decDigits) [b]) : (Lib.goFieldsP nonDig s).map (·.data.toList) = (l :: L).map Lib.decDigits := by
  have hd : ∀ v ∈ (l :: L).map Lib.decDigits, v ≠ [] ∧ ∀ x ∈ v, nonDig x.toNat = false := by
    intro v hv
    obtain ⟨n, _, rfl⟩ := List.mem_map.1 hv
    exact ⟨dec_ne n, fun x hx => nonDig_no (dec_mem n x hx)⟩
  have ha : ∀ x ∈ s.data.toList, x.toNat < 128 := by
    intro x hx
    rw [h] at hx
    rcases join_mem hx with hx | ⟨v, hv, hx⟩
    · rw [List.mem_singleton] at hx; subst hx; exact h128
    · obtain ⟨n, _, rfl⟩ := List.mem_map.1 hv
      have := dec_mem n x hx
      omega
  rw [fields_ascii nonDig s ha, h, List.map_cons, grp_join hb (by rw [← List.map_cons]; exact hd)]
theorem ok_inj : ∀ {a b : List Int}, a.map Lib.NumEnd.ok = b.map Lib.NumEnd.ok → a = b
  | [], [], _ => rfl
  | [], y :: b, h => by simp at h
  | x :: a, [], h => by simp at h
  | x :: a, y :: b, h => by
    rw [List.map_cons, List.map_cons, List.cons.injEq] at h
    have h1 : x = y := by have := h.1; injection this
    rw [h1, ok_inj h.2]
theorem numR_yes {fs : List ByteArray} {L : List Nat} {R : List Int} (hf : fs.map (·.data.toList) = L.map Lib.decDigits) (hl : ∀ x ∈ L, (Lib.decDigits x).length ≤ 18) (h : NumR fs R) : R = natL L := by
  rcases h with h | ⟨_, f, hfm, hbad⟩
  · unfold okV at h
    have e : fs.map (fun f => Lib.atoiAll f.data.toList) = (fs.map (·.data.toList)).map Lib.atoiAll := by rw [List.map_map]; rfl
    rw [e, hf, List.map_map] at h
    apply ok_inj
    rw [← h]
    unfold natL
    rw [List.map_map]
    refine (List.map_congr_left fun x hx => ?_).symm
    exact (atoi_dec (hl x hx)).symm
  · exfalso
    have : f.data.toList ∈ fs.map (·.data.toList) := List.mem_map_of_mem hfm
    rw [hf] at this
    obtain ⟨n, hn, he⟩ := List.mem_map.1 this
    exact hbad n (by rw [← he]; exact atoi_dec (hl n hn))
/-- s is the text of a melt -/
def YesM (s : ByteArray) (l t a : Nat) : Prop := l ≤ 1000000 ∧ t ≤ 1000000 ∧ a ≤ 1000000 ∧ s = jnS [l, t, a] ⟨#[45]⟩
theorem YesM.bytes {s : ByteArray} {l t a : Nat} (h : YesM s l t a) : s.data.toList = Lib.join ([l, t, a].map Lib.decDigits) [45] := by rw [h.2.2.2, jnS_eq]
theorem dec7 {n : Nat} (h : n ≤ 1000000) : (Lib.decDigits n).length ≤ 7 := dec_len 6 n (by omega)
theorem no45 {L : List Nat} {b : UInt8} (hb : b.toNat < 48) : ∀ v ∈ L.map Lib.decDigits, ∀ x ∈ v, x ≠ b := by
  intro v hv x hx e
  obtain ⟨n, _, rfl⟩ := List.mem_map.1 hv
  have := dec_mem n x hx
  subst e
  omega
theorem pm_yes {s : ByteArray} {l t a : Nat} (h : YesM s l t a) : pm3 (spl 45 [] s.data.toList) = (((l : Int), (t : Int), (a : Int)), true) := by
  have hb := h.bytes
  obtain ⟨h1, h2, h3, _⟩ := h
  have e : spl 45 [] s.data.toList = [Lib.decDigits l, Lib.decDigits t, Lib.decDigits a] := by
    rw [hb]
    exact spl_of_join (b := 45) (w := Lib.decDigits l) (W := [Lib.decDigits t, Lib.decDigits a]) (no45 (L := [l, t, a]) (by decide))
  have d1 := dec7 h1
  have d2 := dec7 h2
  have d3 := dec7 h3
  rw [e, pm3, rdV_of (by omega), rdV_of (by omega), rdV_of (by omega)]
  exact mlt_yes (melt_iff.2 (by omega))
theorem pm_no {s : ByteArray} (h : ∀ l t a, ¬ YesM s l t a) : pm3 (spl 45 [] s.data.toList) = ((0, 0, 0), false) := by
  by_cases hl : (spl 45 [] s.data.toList).length = 3
  · obtain ⟨x, y, z, he⟩ := three hl
    have hj := spl_join 45 s.data.toList []
    rw [he, List.nil_append] at hj
    rw [he, pm3]
    rcases hm : meltB (rdV 10 x) (rdV 10 y) (rdV 10 z) with _ | _
    · exact mlt_no hm
    · exfalso
      obtain ⟨⟨a1, b1⟩, ⟨a2, b2⟩, a3, b3⟩ := melt_iff.1 hm
      have e1 := rdV_inv (m := 10) (l := x) (v := (rdV 10 x).toNat) (by omega)
      have e2 := rdV_inv (m := 10) (l := y) (v := (rdV 10 y).toNat) (by omega)
      have e3 := rdV_inv (m := 10) (l := z) (v := (rdV 10 z).toNat) (by omega)
      refine h _ _ _ ⟨?_, ?_, ?_, bytes_ext2 (a := s) (b := jnS [(rdV 10 x).toNat, (rdV 10 y).toNat, (rdV 10 z).toNat] ⟨#[45]⟩) ?_⟩
      · omega
      · omega
      · omega
      · rw [jnS_eq, ← hj]
        show _ = Lib.join [Lib.decDigits _, Lib.decDigits _, Lib.decDigits _] [45]
        rw [e1, e2, e3]
  · exact pm3_out hl
theorem YesM.numR {s : ByteArray} {l t a : Nat} {R : List Int} (h : YesM s l t a) (hR : NumR (Lib.goFieldsP nonDig s) R) : R = [(l : Int), (t : Int), (a : Int)] := by
  have hf := fields_join (b := 45) (by decide) (by decide) h.bytes
  obtain ⟨h1, h2, h3, _⟩ := h
  refine numR_yes (L := [l, t, a]) hf (fun x hx => ?_) hR
  have : (Lib.decDigits x).length ≤ 7 := by
    simp only [List.mem_cons, List.not_mem_nil, or_false] at hx
    rcases hx with rfl | rfl | rfl <;> exact dec7 (by assumption)
  omega
/-- the numbers are no melt, or their text is another -/
theorem pm_len {s : ByteArray} {R : List Int} (hR : NumR (Lib.goFieldsP nonDig s) R) (h : R.length ≠ 3) : pm3 (spl 45 [] s.data.toList) = ((0, 0, 0), false) := pm_no fun l t a hy => h (by rw [hy.numR hR]; rfl)
theorem pm_bad {s : ByteArray} {p q r : Int} (hR : NumR (Lib.goFieldsP nonDig s) [p, q, r]) (h : meltB p q r = false) : pm3 (spl 45 [] s.data.toList) = ((0, 0, 0), false) := pm_no fun l t a hy => by
  have e := hy.numR hR
  simp only [List.cons.injEq, and_true] at e
  obtain ⟨rfl, rfl, rfl⟩ := e
  have : meltB (l : Int) (t : Int) (a : Int) = true := melt_iff.2 (by have := hy.1; have := hy.2.1; have := hy.2.2.1; omega)
  rw [h] at this
  cases this
theorem pm_other {s : ByteArray} {l t a : Nat} (hR : NumR (Lib.goFieldsP nonDig s) [(l : Int), (t : Int), (a : Int)]) (h : ¬ jnS [l, t, a] ⟨#[45]⟩ = s) : pm3 (spl 45 [] s.data.toList) = ((0, 0, 0), false) := pm_no fun l' t' a' hy => by
  have e := hy.numR hR
  simp only [List.cons.injEq, and_true, Int.natCast_inj] at e
  obtain ⟨rfl, rfl, rfl⟩ := e
  exact h hy.2.2.2.symm
set_option maxRecDepth 8000 in
set_option maxHeartbeats 4000000 in
theorem implPM_any (s : ByteArray) (hs : s.size ≤ 1048576) (w : World) (he : Errs w) (hT : Lib.TabIs Tryd.prog w "internal/strconv.uint64pow10" .u64 Lib.pow10Tab) : Calls Tryd.prog 31 #[.string s] w (RetM (pm3 (spl 45 [] s.data.toList)) w) := by
  have HT := Lib.hid hT
  have HN := Lib.hid (fun W h => numbersIn_any s hs W h)
  have HER := Lib.hid he
  obtain ⟨v, hv⟩ : ∃ v, pm3 (spl 45 [] s.data.toList) = v := ⟨_, rfl⟩
  rw [hv]
  have HV := Lib.hid hv
  clear hv hT he
  go_enter Tryd.func31, Tryd.ntmps31
  go_wp2_with fail
  refine (HN.out _ (HER.out.below (bl_alloc (Below.refl _ _) _))).mono ?_
  rintro e w1 ⟨R, A, c, rfl, hn, hwr, hb⟩
  obtain ⟨hc0, hf0, hz0⟩ := bl_at hb (k := w.heap.size) (by first | assumption | (simp; done) | (simp; omega))
  have HB := Lib.hid (show Below w.heap.size w w1 from by repeat (first | (with_reducible exact Below.refl _ _) | (with_reducible assumption) | (with_reducible refine bl_alloc ?_ _) | (with_reducible refine bl_drew ?_) | (with_reducible refine bl_drewN ?_ _) | ((with_reducible refine bl_set ?_ ?hb _); (case hb => first | (simp; done) | omega | (simp; omega))) | (with_reducible refine bl_trans ?_ (by assumption))))
  have hz1 : w.heap.size < w1.heap.size := hz0
  have HNR := Lib.hid hn
  clear hb HN hn
  by_cases hR : R.length = 3
  · rw [hR] at hwr
    rw [hR]
    obtain ⟨p, q, r, rfl⟩ := three hR
    obtain ⟨g, rfl, hgb, hgl, hcc, hff⟩ := hwr.2 (by omega)
    have c0 : w1.cell? ⟨g, 0, none⟩ = some (.int .i64 p) := hcc 0 p rfl
    have c1 : w1.cell? ⟨g, 1, none⟩ = some (.int .i64 q) := hcc 1 q rfl
    have c2 : w1.cell? ⟨g, 2, none⟩ = some (.int .i64 r) := hcc 2 r rfl
    have hbn : g ≠ w.heap.size := by simp at hgb; omega
    have hbn' : w.heap.size ≠ g := by omega
    clear hwr hcc hff hgb hR
    rcases hm : meltB p q r with _ | _
    · obtain rfl : ((0, 0, 0), false) = v := by rw [← HV.out]; exact (pm_bad HNR.out hm).symm
      have HM := Lib.hid hm
      clear hm
      go_wp2_with fail
      refine wp_region_noPanic ?_
      refine wp_region_held_drew (S := (fun w' => w'.cell? ⟨g, 0, none⟩ = some (.int .i64 p) ∧ w'.cell? ⟨g, 1, none⟩ = some (.int .i64 q) ∧ w'.cell? ⟨g, 2, none⟩ = some (.int .i64 r))) (by kernel_rfl) (by (try dsimp only); go_keep) (fun hHeld => ?_)
      refine take_of (some 12) (i := 0) (v := ?vq1_0) rfl rfl (by kernel_rfl) (by kernel_rfl) (by kernel_rfl) (fun _ _ _ h => h) (Or.inl ⟨by rfl, ?hyq1_0⟩) (by assumption) ?restq1_0
      case hyq1_0 => (intro w hSw; (try dsimp only at hSw); go_simp; try with_reducible rfl)
      try simp only [Act.put, List.setIfInBounds_toArray, List.set_cons_zero, List.set_cons_succ]
      refine take_of (some 13) (i := 1) (v := ?vq1_1) rfl rfl (by kernel_rfl) (by kernel_rfl) (by kernel_rfl) (fun _ _ _ h => h) (Or.inl ⟨by rfl, ?hyq1_1⟩) (by assumption) ?restq1_1
      case hyq1_1 => (intro w hSw; (try dsimp only at hSw); go_simp; try with_reducible rfl)
      try simp only [Act.put, List.setIfInBounds_toArray, List.set_cons_zero, List.set_cons_succ]
      refine take_of (some 14) (i := 2) (v := ?vq1_2) rfl rfl (by kernel_rfl) (by kernel_rfl) (by kernel_rfl) (fun _ _ _ h => h) (Or.inl ⟨by rfl, ?hyq1_2⟩) (by assumption) ?restq1_2
      case hyq1_2 => (intro w hSw; (try dsimp only at hSw); go_simp; try with_reducible rfl)
      try simp only [Act.put, List.setIfInBounds_toArray, List.set_cons_zero, List.set_cons_succ]
      refine take_of (some 15) (i := 3) (v := ?vq1_3) rfl rfl (by kernel_rfl) (by kernel_rfl) (by kernel_rfl) (fun _ _ _ h => h) (Or.inl ⟨by rfl, ?hyq1_3⟩) (by assumption) ?restq1_3
      case hyq1_3 => (intro w hSw; (try dsimp only at hSw); go_simp; try with_reducible rfl)
      try simp only [Act.put, List.setIfInBounds_toArray, List.set_cons_zero, List.set_cons_succ]
      refine take_of (some 16) (i := 4) (v := ?vq1_4) rfl rfl (by kernel_rfl) (by kernel_rfl) (by kernel_rfl) (fun _ _ _ h => h) (Or.inl ⟨by rfl, ?hyq1_4⟩) (by assumption) ?restq1_4
      case hyq1_4 => (intro w hSw; (try dsimp only at hSw); go_simp; try with_reducible rfl)
      try simp only [Act.put, List.setIfInBounds_toArray, List.set_cons_zero, List.set_cons_succ]
      refine take_of (some 17) (i := 5) (v := ?vq1_5) rfl rfl (by kernel_rfl) (by kernel_rfl) (by kernel_rfl) (fun _ _ _ h => h) (Or.inl ⟨by rfl, ?hyq1_5⟩) (by assumption) ?restq1_5
      case hyq1_5 => (intro w hSw; (try dsimp only at hSw); go_simp; try with_reducible rfl)
      try simp only [Act.put, List.setIfInBounds_toArray, List.set_cons_zero, List.set_cons_succ]
      refine take_of (some 18) (i := 6) (v := ?vq1_6) rfl rfl (by kernel_rfl) (by kernel_rfl) (by kernel_rfl) (fun _ _ _ h => h) (Or.inl ⟨by rfl, ?hyq1_6⟩) (by assumption) ?restq1_6
      case hyq1_6 => (intro w hSw; (try dsimp only at hSw); go_simp; try with_reducible rfl)
      try simp only [Act.put, List.setIfInBounds_toArray, List.set_cons_zero, List.set_cons_succ]
      refine take_of (some 19) (i := 7) (v := ?vq1_7) rfl rfl (by kernel_rfl) (by kernel_rfl) (by kernel_rfl) (fun _ _ _ h => h) (Or.inl ⟨by rfl, ?hyq1_7⟩) (by assumption) ?restq1_7
      case hyq1_7 => (intro w hSw; (try dsimp only at hSw); go_simp; try with_reducible rfl)
      try simp only [Act.put, List.setIfInBounds_toArray, List.set_cons_zero, List.set_cons_succ]
      refine take_of (some 20) (i := 8) (v := ?vq1_8) rfl rfl (by kernel_rfl) (by kernel_rfl) (by kernel_rfl) (fun _ _ _ h => h) (Or.inl ⟨by rfl, ?hyq1_8⟩) (by assumption) ?restq1_8
      case hyq1_8 => (intro w hSw; (try dsimp only at hSw); go_simp; try with_reducible rfl)
      try simp only [Act.put, List.setIfInBounds_toArray, List.set_cons_zero, List.set_cons_succ]
      refine take_of (some 21) (i := 9) (v := ?vq1_9) rfl rfl (by kernel_rfl) (by kernel_rfl) (by kernel_rfl) (fun _ _ _ h => h) (Or.inl ⟨by rfl, ?hyq1_9⟩) (by assumption) ?restq1_9
      case hyq1_9 => (intro w hSw; (try dsimp only at hSw); go_simp; try with_reducible rfl)
      try simp only [Act.put, List.setIfInBounds_toArray, List.set_cons_zero, List.set_cons_succ]
      refine wpAnyH_ready (rs := [10]) (by kernel_rfl) (by simp) ?_
      refine AllReadyH.cons rfl (fun K hK => ?_) AllReadyH.nil
      go_simp
      (skip)
      go_wp2_with fail
      refine hK.out _ _ (by (try dsimp only); go_keep) (fun hHeld => ?_)
      clear hK K
      try simp only [Act.put, List.setIfInBounds_toArray, List.set_cons_zero, List.set_cons_succ]
      refine wpAnyH_ready (rs := [11]) (by kernel_rfl) (by simp) ?_
      refine AllReadyH.cons rfl (fun K hK => ?_) AllReadyH.nil
      go_simp
      (skip)
      go_wp2_with fail
      refine hK.out _ _ (by (try dsimp only); go_keep) (fun hHeld => ?_)
      clear hK K
      try simp only [Act.put, List.setIfInBounds_toArray, List.set_cons_zero, List.set_cons_succ]
      refine wpAnyH_done (by kernel_rfl) ?_ _
      refine NoPanic.normal ?_
      go_wp2_with fail
      refine (implIsMelt_any _ _ _ _).mono ?_
      rw [HM.out]
      rintro e w2 ⟨rfl, hb⟩
      have hbA : Below w1.heap.size w1 w2 := bl_trans (bl_drew (bl_alloc (Below.refl w1.heap.size w1) _)) hb
      have r0 : w2.cell? ⟨w.heap.size, 0, none⟩ = some (.int .i64 0) := (hbA.cell (p := ⟨w.heap.size, 0, none⟩) (by show w.heap.size < _; omega)).trans ((hc0 0).trans (by simp))
      have r1 : w2.cell? ⟨w.heap.size, 1, none⟩ = some (.int .i64 0) := (hbA.cell (p := ⟨w.heap.size, 1, none⟩) (by show w.heap.size < _; omega)).trans ((hc0 1).trans (by simp))
      have r2 : w2.cell? ⟨w.heap.size, 2, none⟩ = some (.int .i64 0) := (hbA.cell (p := ⟨w.heap.size, 2, none⟩) (by show w.heap.size < _; omega)).trans ((hc0 2).trans (by simp))
      have rf : ∀ o, w2.frozen? ⟨w.heap.size, o, none⟩ = false := fun o => (hbA.frozen (p := ⟨w.heap.size, o, none⟩) (by show w.heap.size < _; omega)).trans ((hf0 o).trans (by simp))
      have m0 : w2.cell? ⟨w1.heap.size, 0, none⟩ = some (.int .i64 p) := (hb.cell (p := ⟨w1.heap.size, 0, none⟩) (by show w1.heap.size < _; simp)).trans (by simp)
      have m1 : w2.cell? ⟨w1.heap.size, 1, none⟩ = some (.int .i64 q) := (hb.cell (p := ⟨w1.heap.size, 1, none⟩) (by show w1.heap.size < _; simp)).trans (by simp)
      have m2 : w2.cell? ⟨w1.heap.size, 2, none⟩ = some (.int .i64 r) := (hb.cell (p := ⟨w1.heap.size, 2, none⟩) (by show w1.heap.size < _; simp)).trans (by simp)
      have hs2 : w1.heap.size < w2.heap.size := by have := hb.size; simp at this; omega
      have hs2' : w.heap.size < w2.heap.size := by omega
      have hne1 : w.heap.size ≠ w1.heap.size := by omega
      have hne2 : w1.heap.size ≠ w.heap.size := by omega
      have HB2 := Lib.hid (bl_trans HB.out hbA)
      clear hb hbA c0 c1 c2 hc0 hf0 hz0
      go_wp2
      refine bodyPost_ret (v := .tuple #[.agg #[.int .i64 0, .int .i64 0, .int .i64 0], .bool false]) (by simp [results, Tryd.results31, go_sem, *]) rfl ⟨rfl, ?_⟩
      have := HB2.out
      exact by repeat (first | (with_reducible exact Below.refl _ _) | (with_reducible assumption) | (with_reducible refine bl_alloc ?_ _) | (with_reducible refine bl_drew ?_) | (with_reducible refine bl_drewN ?_ _) | ((with_reducible refine bl_set ?_ ?hb _); (case hb => first | (simp; done) | omega | (simp; omega))) | (with_reducible refine bl_trans ?_ (by assumption)))
    · obtain ⟨⟨a1, b1⟩, ⟨a2, b2⟩, a3, b3⟩ := melt_iff.1 hm
      obtain ⟨l, rfl⟩ : ∃ n : Nat, p = (n : Int) := ⟨p.toNat, by omega⟩
      obtain ⟨t, rfl⟩ : ∃ n : Nat, q = (n : Int) := ⟨q.toNat, by omega⟩
      obtain ⟨a, rfl⟩ : ∃ n : Nat, r = (n : Int) := ⟨r.toNat, by omega⟩
      have HM := Lib.hid hm
      clear hm
      have HMT := Lib.hid (fun W h => meltText_any l t a (by omega) (by omega) (by omega) W h)
      obtain ⟨T, hTT⟩ : ∃ T, jnS [l, t, a] ⟨#[45]⟩ = T := ⟨_, rfl⟩
      rw [hTT] at HMT
      have HTT := Lib.hid hTT
      clear a1 b1 a2 b2 a3 b3 hTT
      go_wp2_with fail
      refine wp_region_noPanic ?_
      refine wp_region_held_drew (S := (fun w' => w'.cell? ⟨g, 0, none⟩ = some (.int .i64 (l : Int)) ∧ w'.cell? ⟨g, 1, none⟩ = some (.int .i64 (t : Int)) ∧ w'.cell? ⟨g, 2, none⟩ = some (.int .i64 (a : Int)))) (by kernel_rfl) (by (try dsimp only); go_keep) (fun hHeld => ?_)
      refine take_of (some 12) (i := 0) (v := ?vq2_0) rfl rfl (by kernel_rfl) (by kernel_rfl) (by kernel_rfl) (fun _ _ _ h => h) (Or.inl ⟨by rfl, ?hyq2_0⟩) (by assumption) ?restq2_0
      case hyq2_0 => (intro w hSw; (try dsimp only at hSw); go_simp; try with_reducible rfl)
      try simp only [Act.put, List.setIfInBounds_toArray, List.set_cons_zero, List.set_cons_succ]
      refine take_of (some 13) (i := 1) (v := ?vq2_1) rfl rfl (by kernel_rfl) (by kernel_rfl) (by kernel_rfl) (fun _ _ _ h => h) (Or.inl ⟨by rfl, ?hyq2_1⟩) (by assumption) ?restq2_1
      case hyq2_1 => (intro w hSw; (try dsimp only at hSw); go_simp; try with_reducible rfl)
      try simp only [Act.put, List.setIfInBounds_toArray, List.set_cons_zero, List.set_cons_succ]
      refine take_of (some 14) (i := 2) (v := ?vq2_2) rfl rfl (by kernel_rfl) (by kernel_rfl) (by kernel_rfl) (fun _ _ _ h => h) (Or.inl ⟨by rfl, ?hyq2_2⟩) (by assumption) ?restq2_2
      case hyq2_2 => (intro w hSw; (try dsimp only at hSw); go_simp; try with_reducible rfl)
      try simp only [Act.put, List.setIfInBounds_toArray, List.set_cons_zero, List.set_cons_succ]
      refine take_of (some 15) (i := 3) (v := ?vq2_3) rfl rfl (by kernel_rfl) (by kernel_rfl) (by kernel_rfl) (fun _ _ _ h => h) (Or.inl ⟨by rfl, ?hyq2_3⟩) (by assumption) ?restq2_3
      case hyq2_3 => (intro w hSw; (try dsimp only at hSw); go_simp; try with_reducible rfl)
      try simp only [Act.put, List.setIfInBounds_toArray, List.set_cons_zero, List.set_cons_succ]
      refine take_of (some 16) (i := 4) (v := ?vq2_4) rfl rfl (by kernel_rfl) (by kernel_rfl) (by kernel_rfl) (fun _ _ _ h => h) (Or.inl ⟨by rfl, ?hyq2_4⟩) (by assumption) ?restq2_4
      case hyq2_4 => (intro w hSw; (try dsimp only at hSw); go_simp; try with_reducible rfl)
      try simp only [Act.put, List.setIfInBounds_toArray, List.set_cons_zero, List.set_cons_succ]
      refine take_of (some 17) (i := 5) (v := ?vq2_5) rfl rfl (by kernel_rfl) (by kernel_rfl) (by kernel_rfl) (fun _ _ _ h => h) (Or.inl ⟨by rfl, ?hyq2_5⟩) (by assumption) ?restq2_5
      case hyq2_5 => (intro w hSw; (try dsimp only at hSw); go_simp; try with_reducible rfl)
      try simp only [Act.put, List.setIfInBounds_toArray, List.set_cons_zero, List.set_cons_succ]
      refine take_of (some 18) (i := 6) (v := ?vq2_6) rfl rfl (by kernel_rfl) (by kernel_rfl) (by kernel_rfl) (fun _ _ _ h => h) (Or.inl ⟨by rfl, ?hyq2_6⟩) (by assumption) ?restq2_6
      case hyq2_6 => (intro w hSw; (try dsimp only at hSw); go_simp; try with_reducible rfl)
      try simp only [Act.put, List.setIfInBounds_toArray, List.set_cons_zero, List.set_cons_succ]
      refine take_of (some 19) (i := 7) (v := ?vq2_7) rfl rfl (by kernel_rfl) (by kernel_rfl) (by kernel_rfl) (fun _ _ _ h => h) (Or.inl ⟨by rfl, ?hyq2_7⟩) (by assumption) ?restq2_7
      case hyq2_7 => (intro w hSw; (try dsimp only at hSw); go_simp; try with_reducible rfl)
      try simp only [Act.put, List.setIfInBounds_toArray, List.set_cons_zero, List.set_cons_succ]
      refine take_of (some 20) (i := 8) (v := ?vq2_8) rfl rfl (by kernel_rfl) (by kernel_rfl) (by kernel_rfl) (fun _ _ _ h => h) (Or.inl ⟨by rfl, ?hyq2_8⟩) (by assumption) ?restq2_8
      case hyq2_8 => (intro w hSw; (try dsimp only at hSw); go_simp; try with_reducible rfl)
      try simp only [Act.put, List.setIfInBounds_toArray, List.set_cons_zero, List.set_cons_succ]
      refine take_of (some 21) (i := 9) (v := ?vq2_9) rfl rfl (by kernel_rfl) (by kernel_rfl) (by kernel_rfl) (fun _ _ _ h => h) (Or.inl ⟨by rfl, ?hyq2_9⟩) (by assumption) ?restq2_9
      case hyq2_9 => (intro w hSw; (try dsimp only at hSw); go_simp; try with_reducible rfl)
      try simp only [Act.put, List.setIfInBounds_toArray, List.set_cons_zero, List.set_cons_succ]
      refine wpAnyH_ready (rs := [10]) (by kernel_rfl) (by simp) ?_
      refine AllReadyH.cons rfl (fun K hK => ?_) AllReadyH.nil
      go_simp
      (skip)
      go_wp2_with fail
      refine hK.out _ _ (by (try dsimp only); go_keep) (fun hHeld => ?_)
      clear hK K
      try simp only [Act.put, List.setIfInBounds_toArray, List.set_cons_zero, List.set_cons_succ]
      refine wpAnyH_ready (rs := [11]) (by kernel_rfl) (by simp) ?_
      refine AllReadyH.cons rfl (fun K hK => ?_) AllReadyH.nil
      go_simp
      (skip)
      go_wp2_with fail
      refine hK.out _ _ (by (try dsimp only); go_keep) (fun hHeld => ?_)
      clear hK K
      try simp only [Act.put, List.setIfInBounds_toArray, List.set_cons_zero, List.set_cons_succ]
      refine wpAnyH_done (by kernel_rfl) ?_ _
      refine NoPanic.normal ?_
      go_wp2_with fail
      refine (implIsMelt_any _ _ _ _).mono ?_
      rw [HM.out]
      rintro e w2 ⟨rfl, hb⟩
      have hbA : Below w1.heap.size w1 w2 := bl_trans (bl_drew (bl_alloc (Below.refl w1.heap.size w1) _)) hb
      have r0 : w2.cell? ⟨w.heap.size, 0, none⟩ = some (.int .i64 0) := (hbA.cell (p := ⟨w.heap.size, 0, none⟩) (by show w.heap.size < _; omega)).trans ((hc0 0).trans (by simp))
      have r1 : w2.cell? ⟨w.heap.size, 1, none⟩ = some (.int .i64 0) := (hbA.cell (p := ⟨w.heap.size, 1, none⟩) (by show w.heap.size < _; omega)).trans ((hc0 1).trans (by simp))
      have r2 : w2.cell? ⟨w.heap.size, 2, none⟩ = some (.int .i64 0) := (hbA.cell (p := ⟨w.heap.size, 2, none⟩) (by show w.heap.size < _; omega)).trans ((hc0 2).trans (by simp))
      have rf : ∀ o, w2.frozen? ⟨w.heap.size, o, none⟩ = false := fun o => (hbA.frozen (p := ⟨w.heap.size, o, none⟩) (by show w.heap.size < _; omega)).trans ((hf0 o).trans (by simp))
      have m0 : w2.cell? ⟨w1.heap.size, 0, none⟩ = some (.int .i64 (l : Int)) := (hb.cell (p := ⟨w1.heap.size, 0, none⟩) (by show w1.heap.size < _; simp)).trans (by simp)
      have m1 : w2.cell? ⟨w1.heap.size, 1, none⟩ = some (.int .i64 (t : Int)) := (hb.cell (p := ⟨w1.heap.size, 1, none⟩) (by show w1.heap.size < _; simp)).trans (by simp)
      have m2 : w2.cell? ⟨w1.heap.size, 2, none⟩ = some (.int .i64 (a : Int)) := (hb.cell (p := ⟨w1.heap.size, 2, none⟩) (by show w1.heap.size < _; simp)).trans (by simp)
      have hs2 : w1.heap.size < w2.heap.size := by have := hb.size; simp at this; omega
      have hs2' : w.heap.size < w2.heap.size := by omega
      have hne1 : w.heap.size ≠ w1.heap.size := by omega
      have hne2 : w1.heap.size ≠ w.heap.size := by omega
      have HB2 := Lib.hid (bl_trans HB.out hbA)
      clear hb hbA c0 c1 c2 hc0 hf0 hz0
      by_cases hts : T = s
      · obtain rfl : (((l : Int), (t : Int), (a : Int)), true) = v := by
          rw [← HV.out]
          have := melt_iff.1 HM.out
          exact (pm_yes ⟨by omega, by omega, by omega, by rw [HTT.out, hts]⟩).symm
        subst hts
        go_wp2_with fail
        refine (HMT.out _ (tab_below HT.out HB2.out)).mono ?_
        rintro e w3 ⟨rfl, hb⟩
        have y0 := (hb.cell (p := ⟨w.heap.size, 0, none⟩) (by show w.heap.size < _; omega)).trans r0
        have y1 := (hb.cell (p := ⟨w.heap.size, 1, none⟩) (by show w.heap.size < _; omega)).trans r1
        have y2 := (hb.cell (p := ⟨w.heap.size, 2, none⟩) (by show w.heap.size < _; omega)).trans r2
        have yf : ∀ o, w3.frozen? ⟨w.heap.size, o, none⟩ = false := fun o => (hb.frozen (p := ⟨w.heap.size, o, none⟩) (by show w.heap.size < _; omega)).trans (rf o)
        have n0 := (hb.cell (p := ⟨w1.heap.size, 0, none⟩) (by show w1.heap.size < _; omega)).trans m0
        have n1 := (hb.cell (p := ⟨w1.heap.size, 1, none⟩) (by show w1.heap.size < _; omega)).trans m1
        have n2 := (hb.cell (p := ⟨w1.heap.size, 2, none⟩) (by show w1.heap.size < _; omega)).trans m2
        have hs3 : w1.heap.size < w3.heap.size := by have := hb.size; omega
        have hs3' : w.heap.size < w3.heap.size := by omega
        have HB3 := Lib.hid (bl_trans HB2.out hb)
        clear hb r0 r1 r2 rf m0 m1 m2
        go_wp2
        refine bodyPost_ret (v := .tuple #[.agg #[.int .i64 (l : Int), .int .i64 (t : Int), .int .i64 (a : Int)], .bool true]) (by simp [results, Tryd.results31, go_sem, *]) rfl ⟨rfl, ?_⟩
        have := HB3.out
        exact by repeat (first | (with_reducible exact Below.refl _ _) | (with_reducible assumption) | (with_reducible refine bl_alloc ?_ _) | (with_reducible refine bl_drew ?_) | (with_reducible refine bl_drewN ?_ _) | ((with_reducible refine bl_set ?_ ?hb _); (case hb => first | (simp; done) | omega | (simp; omega))) | (with_reducible refine bl_trans ?_ (by assumption)))
      · obtain rfl : ((0, 0, 0), false) = v := by rw [← HV.out]; exact (pm_other HNR.out (by rw [HTT.out]; exact hts)).symm
        have hbe : (T.toList == s.toList) = false := by rw [beq_eq_false_iff_ne]; intro h; rw [ByteArray.toList_eq, ByteArray.toList_eq] at h; exact hts (bytes_ext2 h)
        go_wp2_with fail
        refine (HMT.out _ (tab_below HT.out HB2.out)).mono ?_
        rintro e w3 ⟨rfl, hb⟩
        have y0 := (hb.cell (p := ⟨w.heap.size, 0, none⟩) (by show w.heap.size < _; omega)).trans r0
        have y1 := (hb.cell (p := ⟨w.heap.size, 1, none⟩) (by show w.heap.size < _; omega)).trans r1
        have y2 := (hb.cell (p := ⟨w.heap.size, 2, none⟩) (by show w.heap.size < _; omega)).trans r2
        have yf : ∀ o, w3.frozen? ⟨w.heap.size, o, none⟩ = false := fun o => (hb.frozen (p := ⟨w.heap.size, o, none⟩) (by show w.heap.size < _; omega)).trans (rf o)
        have n0 := (hb.cell (p := ⟨w1.heap.size, 0, none⟩) (by show w1.heap.size < _; omega)).trans m0
        have n1 := (hb.cell (p := ⟨w1.heap.size, 1, none⟩) (by show w1.heap.size < _; omega)).trans m1
        have n2 := (hb.cell (p := ⟨w1.heap.size, 2, none⟩) (by show w1.heap.size < _; omega)).trans m2
        have hs3 : w1.heap.size < w3.heap.size := by have := hb.size; omega
        have hs3' : w.heap.size < w3.heap.size := by omega
        have HB3 := Lib.hid (bl_trans HB2.out hb)
        clear hb r0 r1 r2 rf m0 m1 m2
        go_wp2
        refine bodyPost_ret (v := .tuple #[.agg #[.int .i64 0, .int .i64 0, .int .i64 0], .bool false]) (by simp [results, Tryd.results31, go_sem, *]) rfl ⟨rfl, ?_⟩
        have := HB3.out
        exact by repeat (first | (with_reducible exact Below.refl _ _) | (with_reducible assumption) | (with_reducible refine bl_alloc ?_ _) | (with_reducible refine bl_drew ?_) | (with_reducible refine bl_drewN ?_ _) | ((with_reducible refine bl_set ?_ ?hb _); (case hb => first | (simp; done) | omega | (simp; omega))) | (with_reducible refine bl_trans ?_ (by assumption)))
  · have hR3 : ¬ (R.length : Int) = 3 := by omega
    obtain rfl : ((0, 0, 0), false) = v := by rw [← HV.out]; exact (pm_len HNR.out hR).symm
    clear hwr
    go_wp2
    refine bodyPost_ret (v := .tuple #[.agg #[.int .i64 0, .int .i64 0, .int .i64 0], .bool false]) (by simp [results, Tryd.results31, go_sem, *]) rfl ⟨rfl, ?_⟩
    have := HB.out
    exact by repeat (first | (with_reducible exact Below.refl _ _) | (with_reducible assumption) | (with_reducible refine bl_alloc ?_ _) | (with_reducible refine bl_drew ?_) | (with_reducible refine bl_drewN ?_ _) | ((with_reducible refine bl_set ?_ ?hb _); (case hb => first | (simp; done) | omega | (simp; omega))) | (with_reducible refine bl_trans ?_ (by assumption)))
theorem eqMelt_rf (l t a : Int) (w : World) : Calls Tryd.prog 32 #[.agg #[.int .i64 l, .int .i64 t, .int .i64 a], .agg #[.int .i64 l, .int .i64 t, .int .i64 a]] w fun e w' => e = .returned (.bool (true)) ∧ Below w.heap.size w w' := by
  go_enter Tryd.func32, Tryd.ntmps32
  go_wp2
  go_ret
  exact ⟨rfl, by repeat (first | (with_reducible exact Below.refl _ _) | (with_reducible assumption) | (with_reducible refine bl_alloc ?_ _) | (with_reducible refine bl_drew ?_) | (with_reducible refine bl_drewN ?_ _) | ((with_reducible refine bl_set ?_ ?hb _); (case hb => first | (simp; done) | omega | (simp; omega))) | (with_reducible refine bl_trans ?_ (by assumption)))⟩
set_option maxHeartbeats 4000000 in
theorem lawParseMelt (s : ByteArray) (w : World) (_ : s.size ≤ maxLen) (hT : Lib.TabIs Tryd.prog w "internal/strconv.uint64pow10" .u64 Lib.pow10Tab) (he1 : ∃ tp q, w.var? Tryd.prog "strconv.ErrRange" = some #[.iface tp q]) (he2 : ∃ tp q, w.var? Tryd.prog "strconv.ErrSyntax" = some #[.iface tp q]) : Calls Tryd.prog 8 #[.string s] w fun e w' => e = .returned (.bool (true)) ∧ Below w.heap.size w w' := by
  have he : Errs w := ⟨he1, he2⟩
  by_cases hs : s.size ≤ 1048576
  · have HT := Lib.hid hT
    have HE := Lib.hid he
    have H1 := Lib.hid (fun W => specPM_any s hs W)
    have H2 := Lib.hid (fun W h h' => implPM_any s hs W h h')
    have hsz : ¬ (1048576 : Int) < (s.size : Int) := by omega
    obtain ⟨v, hv⟩ : ∃ v, pm3 (spl 45 [] s.data.toList) = v := ⟨_, rfl⟩
    rw [hv] at H1 H2
    obtain ⟨⟨l, t, a⟩, b⟩ := v
    clear hT he he1 he2 hv hs
    go_enter Tryd.func8, Tryd.ntmps8
    go_wp2_with fail
    refine (H1.out _).mono ?_
    rintro e w1 ⟨rfl, hb⟩
    have HB1 := Lib.hid (show Below w.heap.size w w1 from by repeat (first | (with_reducible exact Below.refl _ _) | (with_reducible assumption) | (with_reducible refine bl_alloc ?_ _) | (with_reducible refine bl_drew ?_) | (with_reducible refine bl_drewN ?_ _) | ((with_reducible refine bl_set ?_ ?hb _); (case hb => first | (simp; done) | omega | (simp; omega))) | (with_reducible refine bl_trans ?_ (by assumption))))
    clear hb
    go_wp2_with fail
    refine (H2.out _ (HE.out.below (bl_alloc HB1.out _)) (tab_below HT.out (bl_alloc HB1.out _))).mono ?_
    rintro e w2 ⟨rfl, hb⟩
    obtain ⟨hc1, hf1, hz1⟩ := bl_at hb (k := w1.heap.size) (by first | assumption | (simp; done) | (simp; omega))
    have HB2 := Lib.hid (bl_trans (bl_alloc HB1.out _) hb)
    have hz2 : w1.heap.size < w2.heap.size := hz1
    clear hb
    go_wp2_with fail
    refine (eqMelt_rf _ _ _ _).mono ?_
    rintro e w3 ⟨rfl, hb⟩
    have HB3 := Lib.hid (show Below w.heap.size w w3 from bl_trans (bl_alloc HB2.out _) hb)
    clear hb
    rcases b with _ | _
    · go_wp2
      go_ret
      exact ⟨rfl, HB3.out⟩
    · go_wp2
      go_ret
      exact ⟨rfl, HB3.out⟩
  · have hsz : (1048576 : Int) < (s.size : Int) := by omega
    go_enter Tryd.func8, Tryd.ntmps8
    go_wp2
    go_ret
    exact ⟨rfl, Below.refl _ _⟩
end Go.Proofs.YtgfobchpkjpiiaaDoor
