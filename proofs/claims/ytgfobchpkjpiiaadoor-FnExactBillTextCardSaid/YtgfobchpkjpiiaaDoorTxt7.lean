/-
  The text of a bill: contracts and the law's walk.
-/
import Derived.Test.YtgfobchpkjpiiaaDoorTxt5
namespace Go.Proofs.YtgfobchpkjpiiaaDoor
open Go.RowKit
set_option linter.unusedVariables false
attribute [local go_sem ↓] Go.wp_at_zero Go.wp_at_succ
attribute [local go_sem high] run_cat

theorem wp_append_ownS {P : Program} (w : World) {o : Oper} {a : Act} {K : Act → World → Prop} {Q : Exit → Act → World → Prop} (s x : Operand) (t : TypeId)
    (ho : o.op = .call { callee := .builtin .append, args := #[s, x], argTypes := #[t, t] })
    (base : Nat) (e : TypeId) (i : TypeInfo) (ht : P.underlying t = some (.slice e)) (hi : P.info? e = some i) (hz : i.zero = some (.string ⟨#[]⟩)) (hsize : i.size = 1) (hby : i.bytes = 16)
    (v : Value) (n : Nat) (xs : List Value) (hs : a.eval s = v) (hown : w.ownsRow base e 1 v n xs)
    (ad : Addr) (y : ByteArray) (hx : a.eval x = .slice (some ad) 1 1) (hnews : w.cell? ad = some (.string y))
    (h63 : n ≤ 1000000) (hbase : base ≤ w.heap.size)
    (h : ∀ v' w', w'.ownsRow base e 1 v' (n + 1) (xs ++ [.string y]) → w.grownBy w' v.ownBlock → (v'.ownBlock = v.ownBlock ∨ v'.ownBlock = some w.heap.size) → K (a.put o.dst v') w') : o.wp P a w K Q := by
  obtain ⟨v', w', hr, h2, h3, _, h5⟩ := run_append_own_at (P := P) w base t o.type e i (.string ⟨#[]⟩) 1 16 ht hi hz hsize hby rfl (by decide) v n xs hown ad 1 1 [.string y] rfl
    (fun j u hu => by
      rcases j with _ | j
      · simp at hu; subst hu; simpa [Addr.add] using hnews
      · simp at hu) (by intro u hu; simp at hu; subst hu; rfl) (by unfold maxLen; omega) (by omega) hbase
  unfold Oper.wp execOp
  simp only [ho, resolve, invoke, builtin, Sem.run_bind, Sem.run_pure, Result.andThen_ok, List.map_toArray, List.map_cons, List.map_nil, hs, hx, hr]
  exact h v' w' h2 h3 h5
theorem bytes_cut (s : ByteArray) (a b : Nat) : (s.extract a b).data.toList = (s.data.toList.drop a).take (b - a) := by
  have h := ByteArray.extract_mk s.data.toList a b
  have e : (ByteArray.mk s.data.toList.toArray) = s := by cases s; simp
  rw [e] at h
  rw [h]
  all_goals simp
theorem not_empty {T : ByteArray} (h : 0 < T.size) : T.toList.isEmpty = false := by
  rw [ByteArray.toList_eq]
  have e : T.data.toList.length = T.size := Array.length_toList
  rcases hl : T.data.toList with _ | ⟨x, r⟩
  · rw [hl] at e; simp at e; omega
  · rfl
/-- a word of a bill -/
def wordS (cd : ByteArray) (m : Nat) : ByteArray := catS (catS cd ⟨#[61]⟩) (numS m)
def bW (xs : List Srt) (ls : List Int) : Nat → List ByteArray
  | 0 => []
  | k + 1 => match ls[k]?, xs[k]? with
    | some v, some x => if 0 < v then bW xs ls k ++ [wordS x.code v.toNat] else bW xs ls k
    | _, _ => bW xs ls k
def bT (xs : List Srt) (ls : List Int) : Nat → ByteArray
  | 0 => ⟨#[]⟩
  | k + 1 => match ls[k]?, xs[k]? with
    | some v, some x => if 0 < v then catS (bT xs ls k) (catS (wordS x.code v.toNat) ⟨#[32]⟩) else bT xs ls k
    | _, _ => bT xs ls k
theorem bW_yes {xs : List Srt} {ls : List Int} {k : Nat} {v : Int} {x : Srt} (h : ls[k]? = some v) (h' : xs[k]? = some x) (hv : 0 < v) : bW xs ls (k + 1) = bW xs ls k ++ [wordS x.code v.toNat] := by rw [bW, h, h']; exact if_pos hv
theorem bW_no {xs : List Srt} {ls : List Int} {k : Nat} {v : Int} {x : Srt} (h : ls[k]? = some v) (h' : xs[k]? = some x) (hv : ¬ 0 < v) : bW xs ls (k + 1) = bW xs ls k := by rw [bW, h, h']; exact if_neg hv
theorem bT_yes {xs : List Srt} {ls : List Int} {k : Nat} {v : Int} {x : Srt} (h : ls[k]? = some v) (h' : xs[k]? = some x) (hv : 0 < v) : bT xs ls (k + 1) = catS (bT xs ls k) (catS (wordS x.code v.toNat) ⟨#[32]⟩) := by rw [bT, h, h']; exact if_pos hv
theorem bT_no {xs : List Srt} {ls : List Int} {k : Nat} {v : Int} {x : Srt} (h : ls[k]? = some v) (h' : xs[k]? = some x) (hv : ¬ 0 < v) : bT xs ls (k + 1) = bT xs ls k := by rw [bT, h, h']; exact if_neg hv
theorem word_size {x : Srt} {v : Int} (h : sortB x = true) (hv : v ≤ 100000) : (wordS x.code v.toNat).size ≤ 16 := by
  have h1 := sort_code h
  have h2 := numS_size (n := v.toNat) (by omega)
  have h3 : (⟨#[61]⟩ : ByteArray).size = 1 := rfl
  unfold wordS
  rw [catS_size, catS_size, h3]
  omega
theorem cnt_le {ls : List Int} (h : allIn ls 0 100000 = true) {k : Nat} {v : Int} (hv : ls[k]? = some v) : 0 ≤ v ∧ v ≤ 100000 := inB_iff.1 (List.all_eq_true.1 h v (List.mem_of_getElem? hv))
theorem bT_size {xs : List Srt} {ls : List Int} (hf : fontB xs = true) (hc : allIn ls 0 100000 = true) : ∀ k, (bT xs ls k).size ≤ 17 * k
  | 0 => by show (0 : Nat) ≤ _; omega
  | k + 1 => by
    have ih := bT_size hf hc k
    rcases h : ls[k]? with _ | v
    · rw [bT, h]; show (bT xs ls k).size ≤ _; omega
    · rcases h' : xs[k]? with _ | x
      · rw [bT, h, h']; show (bT xs ls k).size ≤ _; omega
      · by_cases hv : 0 < v
        · have hs := word_size (font_each hf h') (cnt_le hc h).2
          have h3 : (⟨#[32]⟩ : ByteArray).size = 1 := rfl
          rw [bT_yes h h' hv, catS_size, catS_size, h3]; omega
        · rw [bT_no h h' hv]; omega
theorem bT_flat (xs : List Srt) (ls : List Int) : ∀ k, (bT xs ls k).data.toList = ((bW xs ls k).map (fun y => y.data.toList ++ [32])).flatten
  | 0 => rfl
  | k + 1 => by
    have ih := bT_flat xs ls k
    rcases h : ls[k]? with _ | v
    · rw [bT, bW, h]; exact ih
    · rcases h' : xs[k]? with _ | x
      · rw [bT, bW, h, h']; exact ih
      · by_cases hv : 0 < v
        · rw [bT_yes h h' hv, bW_yes h h' hv, catS_bytes, catS_bytes, ih, List.map_append, List.flatten_append]
          simp
        · rw [bT_no h h' hv, bW_no h h' hv]; exact ih
theorem bW_len (xs : List Srt) (ls : List Int) : ∀ k, (bW xs ls k).length ≤ k
  | 0 => Nat.le_refl _
  | k + 1 => by
    have ih := bW_len xs ls k
    rcases h : ls[k]? with _ | v
    · rw [bW, h]; show (bW xs ls k).length ≤ _; omega
    · rcases h' : xs[k]? with _ | x
      · rw [bW, h, h']; show (bW xs ls k).length ≤ _; omega
      · by_cases hv : 0 < v
        · rw [bW_yes h h' hv, List.length_append, List.length_singleton]; omega
        · rw [bW_no h h' hv]; omega
theorem flat_tail (sep : List UInt8) : ∀ (r : List (List UInt8)), sep ++ (r.map (· ++ sep)).flatten = Lib.joinTail sep r ++ sep
  | [] => by simp [Lib.joinTail]
  | y :: r => by
    have ih := flat_tail sep r
    simp only [Lib.joinTail, List.map_cons, List.flatten_cons, List.append_assoc] at ih ⊢
    rw [ih]
theorem flat_join (x : List UInt8) (r : List (List UInt8)) (sep : List UInt8) : ((x :: r).map (· ++ sep)).flatten = Lib.join (x :: r) sep ++ sep := by
  rw [Lib.join_cons, List.map_cons, List.flatten_cons, List.append_assoc, flat_tail, List.append_assoc]
def jnW (W : List ByteArray) : ByteArray := ⟨(Lib.join (W.map (·.data.toList)) [32]).toArray⟩
theorem jnW_nil : jnW [] = ⟨#[]⟩ := rfl
theorem bT_empty {xs : List Srt} {ls : List Int} {k : Nat} (h : bW xs ls k = []) : bT xs ls k = ⟨#[]⟩ := by
  apply bytes_ext2
  rw [bT_flat, h]
  rfl
theorem map_two (W : List ByteArray) : W.map (fun y => y.data.toList ++ [32]) = (W.map (·.data.toList)).map (· ++ [32]) := by rw [List.map_map]; rfl
theorem bT_join {xs : List Srt} {ls : List Int} {k : Nat} (h : bW xs ls k ≠ []) : (bT xs ls k).data.toList = (jnW (bW xs ls k)).data.toList ++ [32] := by
  rw [bT_flat]
  cases hW : bW xs ls k with
  | nil => exact absurd hW h
  | cons x r =>
    show _ = Lib.join ((x :: r).map (·.data.toList)) [32] ++ [32]
    rw [map_two, List.map_cons, flat_join]
theorem bT_cut {xs : List Srt} {ls : List Int} {k : Nat} (h : bW xs ls k ≠ []) : (bT xs ls k).extract 0 ((bT xs ls k).size - 1) = jnW (bW xs ls k) ∧ 0 < (bT xs ls k).size := by
  have e := bT_join h
  have hl : (bT xs ls k).size = (jnW (bW xs ls k)).data.toList.length + 1 := by
    have : (bT xs ls k).data.toList.length = (bT xs ls k).size := Array.length_toList
    rw [← this, e]; simp
  refine ⟨?_, by omega⟩
  apply bytes_ext2
  have e2 : ((bT xs ls k).extract 0 ((bT xs ls k).size - 1)).data.toList = ((bT xs ls k).data.toList.drop 0).take ((bT xs ls k).size - 1 - 0) := bytes_cut _ _ _
  rw [e2, List.drop_zero, Nat.sub_zero, e, hl]
  simp
def blB (xs : List Srt) (ls : List Int) : Bool := fontB xs && cntB xs ls
def blS (xs : List Srt) (ls : List Int) : ByteArray := if blB xs ls = true then jnW (bW xs ls xs.length) else ⟨#[]⟩
theorem blS_no {xs : List Srt} {ls : List Int} (h : blB xs ls = false) : blS xs ls = ⟨#[]⟩ := by simp [blS, h]
theorem blS_yes {xs : List Srt} {ls : List Int} (h : blB xs ls = true) : blS xs ls = jnW (bW xs ls xs.length) := by simp [blS, h]
set_option maxHeartbeats 4000000 in
theorem specBT_any (A A' : Option Addr) (n c n' c' : Nat) (xs : List Srt) (ls : List Int) (w : World) (hs : SI w A A' n n' xs ls) :
    Calls Tryd.prog 26 #[.slice A n c, .slice A' n' c'] w (PairS (blS xs ls) (blB xs ls) w) := by
  have HS := Lib.hid hs
  have hl := hs.1.1
  have hl' := hs.2.1.1
  have HF := Lib.hid (tyFont_any A n c _ xs w hs.1 (Nat.le_refl _) hs.2.2.1 hs.2.2.2.2)
  have HST := Lib.hid (fun (W : World) (hb : Below w.heap.size w W) => biStock_any A A' n c n' c' xs ls W (hs.below hb))
  clear hs
  rcases h1 : fontB xs with _ | _
  · have H1 := Lib.hid h1
    have HB := Lib.hid (show blB xs ls = false by unfold blB; rw [h1]; rfl)
    clear h1
    go_enter Tryd.func26, Tryd.ntmps26
    go_wp2_with (go_at_call 46; refine HF.out.mono ?_; rw [H1.out]; rintro e w1 ⟨rfl, hb⟩)
    go_ret2
    exact pair_s (blS_no HB.out).symm HB.out.symm (by repeat (first | (with_reducible exact Below.refl _ _) | (with_reducible assumption) | (with_reducible refine bl_alloc ?_ _) | (with_reducible refine bl_drew ?_) | (with_reducible refine bl_drewN ?_ _) | ((with_reducible refine bl_set ?_ ?hb _); (case hb => first | (simp; done) | omega | (simp; omega))) | (with_reducible refine bl_trans ?_ (by assumption))))
  · have H1 := Lib.hid h1
    rcases h2 : cntB xs ls with _ | _
    · have H2 := Lib.hid h2
      have HB := Lib.hid (show blB xs ls = false by unfold blB; rw [h1, h2]; rfl)
      clear h1 h2
      go_enter Tryd.func26, Tryd.ntmps26
      go_wp2_with fail
      refine HF.out.mono ?_
      rw [H1.out]
      rintro e w1 ⟨rfl, hb⟩
      go_wp2_with (go_at_call 59; refine (HST.out _ hb).mono ?_; rw [H2.out]; rintro e w2 ⟨rfl, rfl⟩)
      go_ret2
      exact pair_s (blS_no HB.out).symm HB.out.symm hb
    · have H2 := Lib.hid h2
      have HB := Lib.hid (show blB xs ls = true by unfold blB; rw [h1, h2]; rfl)
      have hlen := font_len h1
      obtain ⟨hcl, hca⟩ := cnt_in h2
      have HCA := Lib.hid hca
      have HSZ := Lib.hid (bT_size h1 hca)
      clear h1 h2 hca
      go_enter Tryd.func26, Tryd.ntmps26
      go_wp2_with fail
      refine HF.out.mono ?_
      rw [H1.out]
      rintro e w1 ⟨rfl, hb1⟩
      have HB1 := Lib.hid hb1
      go_wp2_with (go_at_call 59; refine (HST.out _ hb1).mono ?_; rw [H2.out]; rintro e w2 ⟨rfl, rfl⟩)
      have hs1 := hb1.size
      clear hb1
      go_loopw [6, 20] (fun s i wr => ∃ j : Nat, j ≤ n' ∧ i = .int .i64 j ∧ s = .string (bT xs ls j) ∧ Below w.heap.size w wr) (fun _ i _ => n' - (intOf i).toNat)
      case atStart => exact ⟨0, Nat.zero_le _, rfl, rfl, HB1.out⟩
      case round =>
        obtain ⟨j, hj, rfl, rfl, hbj⟩ := hrel
        have BJ := Lib.hid hbj
        have hsz := hbj.size
        have hsj := HSZ.out j
        by_cases hlt : j < n'
        · obtain ⟨bo, offo, v, rfl, hbB, hik, hci⟩ := (HS.out.2.1.below hbj).atI hlt
          obtain ⟨b, off, x, rfl, hbB2, hxk, hc0, hc1⟩ := (HS.out.1.below hbj).atSrt (show j < n by omega)
          have hv := cnt_le HCA.out hik
          have hbo : bo < wr.heap.size := by omega
          have hbb : b < wr.heap.size := by omega
          by_cases hv0 : 0 < v
          · have HN := Lib.hid (bT_yes hik hxk hv0)
            have hcd := sort_code (font_each H1.out hxk)
            clear hik hxk hbj
            obtain ⟨cd, st⟩ := x
            dsimp only at hc0 hc1 hcd HN
            obtain ⟨m, rfl⟩ : ∃ m : Nat, v = (m : Int) := ⟨v.toNat, by omega⟩
            rw [Int.toNat_natCast] at HN
            have hm12 : m < 1000000000000 := by omega
            have hsm := numS_size hm12
            have h61 : (⟨#[61]⟩ : ByteArray).size ≤ 1 := by decide
            have h32 : (⟨#[32]⟩ : ByteArray).size ≤ 1 := by decide
            have f1 : Fit cd ⟨#[61]⟩ := fit_of hcd h61 (by omega)
            have f2 : Fit (catS cd ⟨#[61]⟩) (numS m) := fit_of (p := 4) (by rw [catS_size]; omega) hsm (by omega)
            have f3 : Fit (catS (catS cd ⟨#[61]⟩) (numS m)) ⟨#[32]⟩ := fit_of (p := 16) (by rw [catS_size, catS_size]; omega) h32 (by omega)
            have f4 : Fit (bT xs ls j) (catS (catS (catS cd ⟨#[61]⟩) (numS m)) ⟨#[32]⟩) := fit_of (q := 17) hsj (by rw [catS_size, catS_size, catS_size]; omega) (by omega)
            have g1 : (0 : Int) ≤ (j : Int) := by omega
            have g2 : (j : Int) < (n : Int) := by omega
            clear hcd hsm h61 h32
            go_wp2_with fail
            refine wp_region_noPanic ?_
            refine wp_region_held_drew (S := (fun w' => w'.cell? ⟨b, off + j * 2, none⟩ = some (.string cd))) (by kernel_rfl) (by (try dsimp only); go_keep) (fun hHeld => ?_)
            refine take_of (some 27) (i := 0) (v := ?vq1_0) rfl rfl (by kernel_rfl) (by kernel_rfl) (by kernel_rfl) (fun _ _ _ h => h) (Or.inl ⟨by rfl, ?hyq1_0⟩) (by assumption) ?restq1_0
            case hyq1_0 => (intro w hSw; (try dsimp only at hSw); go_simp; try with_reducible rfl)
            try simp only [Act.put, List.setIfInBounds_toArray, List.set_cons_zero, List.set_cons_succ]
            refine take_of (some 28) (i := 1) (v := ?vq1_1) rfl rfl (by kernel_rfl) (by kernel_rfl) (by kernel_rfl) (fun _ _ _ h => h) (Or.inl ⟨by rfl, ?hyq1_1⟩) (by assumption) ?restq1_1
            case hyq1_1 => (intro w hSw; (try dsimp only at hSw); go_simp; try with_reducible rfl)
            try simp only [Act.put, List.setIfInBounds_toArray, List.set_cons_zero, List.set_cons_succ]
            refine take_of (some 29) (i := 2) (v := ?vq1_2) rfl rfl (by kernel_rfl) (by kernel_rfl) (by kernel_rfl) (fun _ _ _ h => h) (Or.inl ⟨by rfl, ?hyq1_2⟩) (by assumption) ?restq1_2
            case hyq1_2 => (intro w hSw; (try dsimp only at hSw); go_simp; try with_reducible rfl)
            try simp only [Act.put, List.setIfInBounds_toArray, List.set_cons_zero, List.set_cons_succ]
            refine take_of (some 30) (i := 3) (v := ?vq1_3) rfl rfl (by kernel_rfl) (by kernel_rfl) (by kernel_rfl) (fun _ _ _ h => h) (Or.inl ⟨by rfl, ?hyq1_3⟩) (by assumption) ?restq1_3
            case hyq1_3 => (intro w hSw; (try dsimp only at hSw); go_simp; try with_reducible rfl)
            try simp only [Act.put, List.setIfInBounds_toArray, List.set_cons_zero, List.set_cons_succ]
            refine take_of (some 31) (i := 4) (v := ?vq1_4) rfl rfl (by kernel_rfl) (by kernel_rfl) (by kernel_rfl) (fun _ _ _ h => h) (Or.inl ⟨by rfl, ?hyq1_4⟩) (by assumption) ?restq1_4
            case hyq1_4 => (intro w hSw; (try dsimp only at hSw); go_simp; try with_reducible rfl)
            try simp only [Act.put, List.setIfInBounds_toArray, List.set_cons_zero, List.set_cons_succ]
            refine take_of (some 32) (i := 5) (v := ?vq1_5) rfl rfl (by kernel_rfl) (by kernel_rfl) (by kernel_rfl) (fun _ _ _ h => h) (Or.inl ⟨by rfl, ?hyq1_5⟩) (by assumption) ?restq1_5
            case hyq1_5 => (intro w hSw; (try dsimp only at hSw); go_simp; try with_reducible rfl)
            try simp only [Act.put, List.setIfInBounds_toArray, List.set_cons_zero, List.set_cons_succ]
            refine take_of (some 33) (i := 6) (v := ?vq1_6) rfl rfl (by kernel_rfl) (by kernel_rfl) (by kernel_rfl) (fun _ _ _ h => h) (Or.inl ⟨by rfl, ?hyq1_6⟩) (by assumption) ?restq1_6
            case hyq1_6 => (intro w hSw; (try dsimp only at hSw); go_simp; try with_reducible rfl)
            try simp only [Act.put, List.setIfInBounds_toArray, List.set_cons_zero, List.set_cons_succ]
            refine take_of (some 34) (i := 7) (v := ?vq1_7) rfl rfl (by kernel_rfl) (by kernel_rfl) (by kernel_rfl) (fun _ _ _ h => h) (Or.inl ⟨by rfl, ?hyq1_7⟩) (by assumption) ?restq1_7
            case hyq1_7 => (intro w hSw; (try dsimp only at hSw); go_simp; try with_reducible rfl)
            try simp only [Act.put, List.setIfInBounds_toArray, List.set_cons_zero, List.set_cons_succ]
            refine wpAnyH_ready (rs := [8]) (by kernel_rfl) (by simp) ?_
            refine AllReadyH.cons rfl (fun K hK => ?_) AllReadyH.nil
            go_simp
            (go_at_call 60; refine (l1Num_any m hm12 _).mono ?_; rintro e w3 ⟨rfl, hb⟩; have x0 : w3.cell? ⟨b, off + j * 2, none⟩ = some (.string cd) := (hb.cell (p := ⟨b, off + j * 2, none⟩) (by show b < _; simpa using hbb)).trans (by simpa using hc0); have HB3 := Lib.hid (bl_trans (bl_drew BJ.out) hb); clear hb)
            go_wp2_with fail
            refine hK.out _ _ (by (try dsimp only); go_keep) (fun hHeld => ?_)
            clear hK K
            try simp only [Act.put, List.setIfInBounds_toArray, List.set_cons_zero, List.set_cons_succ]
            refine take_of (some 36) (i := 9) (v := ?vq1_9) rfl rfl (by kernel_rfl) (by kernel_rfl) (by kernel_rfl) (fun _ _ _ h => h) (Or.inl ⟨by rfl, ?hyq1_9⟩) (by assumption) ?restq1_9
            case hyq1_9 => (intro w hSw; (try dsimp only at hSw); go_simp; try with_reducible rfl)
            try simp only [Act.put, List.setIfInBounds_toArray, List.set_cons_zero, List.set_cons_succ]
            refine take_of (some 37) (i := 10) (v := ?vq1_10) rfl rfl (by kernel_rfl) (by kernel_rfl) (by kernel_rfl) (fun _ _ _ h => h) (Or.inl ⟨by rfl, ?hyq1_10⟩) (by assumption) ?restq1_10
            case hyq1_10 => (intro w hSw; (try dsimp only at hSw); go_simp; try with_reducible rfl)
            try simp only [Act.put, List.setIfInBounds_toArray, List.set_cons_zero, List.set_cons_succ]
            refine take_of (some 38) (i := 11) (v := ?vq1_11) rfl rfl (by kernel_rfl) (by kernel_rfl) (by kernel_rfl) (fun _ _ _ h => h) (Or.inl ⟨by rfl, ?hyq1_11⟩) (by assumption) ?restq1_11
            case hyq1_11 => (intro w hSw; (try dsimp only at hSw); go_simp; try with_reducible rfl)
            try simp only [Act.put, List.setIfInBounds_toArray, List.set_cons_zero, List.set_cons_succ]
            refine take_of (some 6) (i := 12) (v := ?vq1_12) rfl rfl (by kernel_rfl) (by kernel_rfl) (by kernel_rfl) (fun _ _ _ h => h) (Or.inl ⟨by rfl, ?hyq1_12⟩) (by assumption) ?restq1_12
            case hyq1_12 => (intro w hSw; (try dsimp only at hSw); go_simp; try with_reducible rfl)
            try simp only [Act.put, List.setIfInBounds_toArray, List.set_cons_zero, List.set_cons_succ]
            refine wpAnyH_done (by kernel_rfl) ?_ _
            refine NoPanic.normal ?_
            go_wp2
            go_roundw
            case rel => exact ⟨j + 1, by omega, by go_num, by rw [HN.out]; rfl, HB3.out⟩
            case measure => simp [intOf]; omega
          · have HN := Lib.hid (bT_no hik hxk hv0)
            clear hik hxk hbj hc0 hc1
            go_wp2
            go_roundw
            case rel => exact ⟨j + 1, by omega, by go_num, by rw [HN.out], BJ.out⟩
            case measure => simp [intOf]; omega
        · have hjn : j = xs.length := by omega
          have HE := Lib.hid (blS_yes HB.out)
          by_cases hW : bW xs ls j = []
          · have HT := Lib.hid (bT_empty hW)
            have HEE := Lib.hid (show blS xs ls = ⟨#[]⟩ by rw [HE.out, ← hjn, hW]; rfl)
            rw [HT.out]
            clear hW hjn hsj
            go_wp2
            go_ret2
            exact pair_s HEE.out.symm HB.out.symm BJ.out
          · obtain ⟨hcut, hpos⟩ := bT_cut hW
            have HEE := Lib.hid (show blS xs ls = jnW (bW xs ls j) by rw [HE.out, ← hjn])
            have hne := not_empty hpos
            obtain ⟨T, hT⟩ : ∃ T, bT xs ls j = T := ⟨_, rfl⟩
            rw [hT] at hcut hpos hne hsj
            rw [hT]
            have HC := Lib.hid hcut
            clear hW hjn hcut hT
            have hz1 : (0 : Int) ≤ (T.size : Int) - 1 := by omega
            go_wp2
            go_ret2
            rw [HC.out]
            exact pair_s HEE.out.symm HB.out.symm BJ.out
theorem word_len {cd : ByteArray} {m : Nat} (h : cd.size ≤ 3) (h2 : (numS m).size ≤ 12) : (wordS cd m).data.toList.length ≤ 16 := by
  have e : (wordS cd m).data.toList.length = (wordS cd m).size := Array.length_toList
  have h3 : (⟨#[61]⟩ : ByteArray).size = 1 := rfl
  rw [e]; unfold wordS
  rw [catS_size, catS_size, h3]; omega
theorem bW_each {xs : List Srt} {ls : List Int} (hf : fontB xs = true) (hc : allIn ls 0 100000 = true) : ∀ k, ∀ y ∈ bW xs ls k, y.data.toList.length ≤ 16
  | 0, y, h => by simp [bW] at h
  | k + 1, y, h => by
    have ih := bW_each hf hc k
    rcases hl : ls[k]? with _ | v
    · rw [bW, hl] at h; exact ih y h
    · rcases h' : xs[k]? with _ | x
      · rw [bW, hl, h'] at h; exact ih y h
      · by_cases hv : 0 < v
        · rw [bW_yes hl h' hv, List.mem_append, List.mem_singleton] at h
          rcases h with h | rfl
          · exact ih y h
          · have := cnt_le hc hl
            exact word_len (sort_code (font_each hf h')) (numS_size (by omega))
        · rw [bW_no hl h' hv] at h; exact ih y h
theorem tailW_len : ∀ (r : List ByteArray), (∀ y ∈ r, y.data.toList.length ≤ 16) → (Lib.joinTail [32] (r.map (·.data.toList))).length ≤ 17 * r.length
  | [], _ => by simp [Lib.joinTail]
  | x :: r, h => by
    have ih := tailW_len r (fun y hy => h y (List.mem_cons_of_mem _ hy))
    have hx := h x (List.mem_cons_self ..)
    simp only [Lib.joinTail, List.map_cons, List.flatten_cons, List.length_append, List.length_cons, List.length_nil] at ih ⊢
    omega
theorem joinW_len (W : List ByteArray) (h : ∀ y ∈ W, y.data.toList.length ≤ 16) : (Lib.join (W.map (·.data.toList)) [32]).length ≤ 17 * W.length := by
  cases W with
  | nil => simp [Lib.join_nil]
  | cons x r =>
    rw [List.map_cons, Lib.join_cons, List.length_append]
    have hx := h x (List.mem_cons_self ..)
    have := tailW_len r (fun y hy => h y (List.mem_cons_of_mem _ hy))
    rw [List.length_cons]
    omega
/-- a slice of strings that reads W, in memory from base on -/
def OwnW (w : World) (base : Nat) (s : Value) (W : List ByteArray) : Prop := w.ownsRow base 9 1 s W.length (W.map Value.string)
set_option maxRecDepth 8000 in
set_option maxHeartbeats 4000000 in
theorem implBT_any (A A' : Option Addr) (n c n' c' : Nat) (xs : List Srt) (ls : List Int) (w : World) (hs : SI w A A' n n' xs ls) (hT : Lib.TabIs Tryd.prog w "internal/strconv.uint64pow10" .u64 Lib.pow10Tab) :
    Calls Tryd.prog 28 #[.slice A n c, .slice A' n' c'] w (PairS (blS xs ls) (blB xs ls) w) := by
  have HS := Lib.hid hs
  have HT := Lib.hid hT
  have hl := hs.1.1
  have hl' := hs.2.1.1
  have HAC := Lib.hid (show Calls Tryd.prog 61 #[.slice A n c, .slice A' n' c'] w fun e w' => e = .returned (.bool (blB xs ls)) ∧ Below w.heap.size w w' from areCounts_any A A' n c n' c' xs ls w hs)
  obtain ⟨i0, hi0, hi1, hi2, hi3⟩ := info_parts infoS
  clear hs hT
  rcases h : blB xs ls with _ | _
  · have HB := Lib.hid h
    clear h
    go_enter Tryd.func28, Tryd.ntmps28
    go_wp2_with (go_at_call 61; refine HAC.out.mono ?_; rw [HB.out]; rintro e w1 ⟨rfl, hb⟩)
    go_ret2
    exact pair_s (blS_no HB.out).symm rfl (by repeat (first | (with_reducible exact Below.refl _ _) | (with_reducible assumption) | (with_reducible refine bl_alloc ?_ _) | (with_reducible refine bl_drew ?_) | (with_reducible refine bl_drewN ?_ _) | ((with_reducible refine bl_set ?_ ?hb _); (case hb => first | (simp; done) | omega | (simp; omega))) | (with_reducible refine bl_trans ?_ (by assumption))))
  · have HB := Lib.hid h
    have hb2 := h
    unfold blB at hb2
    rw [Bool.and_eq_true] at hb2
    obtain ⟨h1, h2⟩ := hb2
    have H1 := Lib.hid h1
    have hlen := font_len h1
    obtain ⟨hcl, hca⟩ := cnt_in h2
    have HCA := Lib.hid hca
    have HBL := Lib.hid (bW_len xs ls)
    have HBE := Lib.hid (bW_each h1 hca)
    clear h h1 h2 hca
    go_enter Tryd.func28, Tryd.ntmps28
    go_wp2_with fail
    refine HAC.out.mono ?_
    rw [HB.out]
    rintro e w1 ⟨rfl, hb1⟩
    have HB1 := Lib.hid hb1
    have hs1 := hb1.size
    clear hb1
    go_wp2_with fail
    go_loopw [6, 16] (fun s i wr => ∃ j : Nat, j ≤ n' ∧ i = .int .i64 j ∧ OwnW wr w1.heap.size s (bW xs ls j) ∧ Below w1.heap.size w1 wr) (fun _ i _ => n' - (intOf i).toNat)
    case atStart => exact ⟨0, Nat.zero_le _, rfl, own_empty (heap_alloc_new w1 _) (Nat.le_refl _), bl_alloc (Below.refl _ _) _⟩
    case round =>
      obtain ⟨j, hj, rfl, ho, hbj⟩ := hrel
      have HO : Hid (wr.ownsRow w1.heap.size 9 1 _ (bW xs ls j).length ((bW xs ls j).map Value.string)) := Lib.hid ho
      clear ho
      have BJ := Lib.hid hbj
      have BW := Lib.hid (bl_trans HB1.out hbj)
      have hsz := hbj.size
      have hlj := HBL.out j
      by_cases hlt : j < n'
      · obtain ⟨bo, offo, v, rfl, hbB, hik, hci⟩ := (HS.out.2.1.below BW.out).atI hlt
        obtain ⟨b, off, x, rfl, hbB2, hxk, hc0, hc1⟩ := (HS.out.1.below BW.out).atSrt (show j < n by omega)
        have hv := cnt_le HCA.out hik
        have hbo : bo < wr.heap.size := by omega
        have hbb : b < wr.heap.size := by omega
        have hbw : b < w1.heap.size := by omega
        by_cases hv0 : 0 < v
        · have HN := Lib.hid (bW_yes hik hxk hv0)
          have hcd := sort_code (font_each H1.out hxk)
          clear hik hxk hbj
          obtain ⟨cd, st⟩ := x
          dsimp only at hc0 hc1 hcd HN
          obtain ⟨m, rfl⟩ : ∃ m : Nat, v = (m : Int) := ⟨v.toNat, by omega⟩
          rw [Int.toNat_natCast] at HN
          have hm12 : m < 1000000000000 := by omega
          have hsm := numS_size hm12
          have h61 : (⟨#[61]⟩ : ByteArray).size ≤ 1 := by decide
          have f1 : Fit cd ⟨#[61]⟩ := fit_of hcd h61 (by omega)
          have f2 : Fit (catS cd ⟨#[61]⟩) (numS m) := fit_of (p := 4) (by rw [catS_size]; omega) hsm (by omega)
          have g1 : (0 : Int) ≤ (j : Int) := by omega
          have g2 : (j : Int) < (n : Int) := by omega
          clear hcd hsm h61
          go_wp2_with fail
          refine wp_region_noPanic ?_
          refine wp_region_held_drew (S := (fun w' => w'.cell? ⟨b, off + j * 2, none⟩ = some (.string cd))) (by kernel_rfl) (by (try dsimp only); go_keep) (fun hHeld => ?_)
          refine take_of (some 23) (i := 0) (v := ?vq2_0) rfl rfl (by kernel_rfl) (by kernel_rfl) (by kernel_rfl) (fun _ _ _ h => h) (Or.inl ⟨by rfl, ?hyq2_0⟩) (by assumption) ?restq2_0
          case hyq2_0 => (intro w hSw; (try dsimp only at hSw); go_simp; try with_reducible rfl)
          try simp only [Act.put, List.setIfInBounds_toArray, List.set_cons_zero, List.set_cons_succ]
          refine take_of (some 24) (i := 1) (v := ?vq2_1) rfl rfl (by kernel_rfl) (by kernel_rfl) (by kernel_rfl) (fun _ _ _ h => h) (Or.inl ⟨by rfl, ?hyq2_1⟩) (by assumption) ?restq2_1
          case hyq2_1 => (intro w hSw; (try dsimp only at hSw); go_simp; try with_reducible rfl)
          try simp only [Act.put, List.setIfInBounds_toArray, List.set_cons_zero, List.set_cons_succ]
          refine take_of (some 25) (i := 2) (v := ?vq2_2) rfl rfl (by kernel_rfl) (by kernel_rfl) (by kernel_rfl) (fun _ _ _ h => h) (Or.inl ⟨by rfl, ?hyq2_2⟩) (by assumption) ?restq2_2
          case hyq2_2 => (intro w hSw; (try dsimp only at hSw); go_simp; try with_reducible rfl)
          try simp only [Act.put, List.setIfInBounds_toArray, List.set_cons_zero, List.set_cons_succ]
          refine take_of (some 26) (i := 3) (v := ?vq2_3) rfl rfl (by kernel_rfl) (by kernel_rfl) (by kernel_rfl) (fun _ _ _ h => h) (Or.inl ⟨by rfl, ?hyq2_3⟩) (by assumption) ?restq2_3
          case hyq2_3 => (intro w hSw; (try dsimp only at hSw); go_simp; try with_reducible rfl)
          try simp only [Act.put, List.setIfInBounds_toArray, List.set_cons_zero, List.set_cons_succ]
          refine take_of (some 27) (i := 4) (v := ?vq2_4) rfl rfl (by kernel_rfl) (by kernel_rfl) (by kernel_rfl) (fun _ _ _ h => h) (Or.inl ⟨by rfl, ?hyq2_4⟩) (by assumption) ?restq2_4
          case hyq2_4 => (intro w hSw; (try dsimp only at hSw); go_simp; try with_reducible rfl)
          try simp only [Act.put, List.setIfInBounds_toArray, List.set_cons_zero, List.set_cons_succ]
          refine take_of (some 28) (i := 5) (v := ?vq2_5) rfl rfl (by kernel_rfl) (by kernel_rfl) (by kernel_rfl) (fun _ _ _ h => h) (Or.inl ⟨by rfl, ?hyq2_5⟩) (by assumption) ?restq2_5
          case hyq2_5 => (intro w hSw; (try dsimp only at hSw); go_simp; try with_reducible rfl)
          try simp only [Act.put, List.setIfInBounds_toArray, List.set_cons_zero, List.set_cons_succ]
          refine take_of (some 29) (i := 6) (v := ?vq2_6) rfl rfl (by kernel_rfl) (by kernel_rfl) (by kernel_rfl) (fun _ _ _ h => h) (Or.inl ⟨by rfl, ?hyq2_6⟩) (by assumption) ?restq2_6
          case hyq2_6 => (intro w hSw; (try dsimp only at hSw); go_simp; try with_reducible rfl)
          try simp only [Act.put, List.setIfInBounds_toArray, List.set_cons_zero, List.set_cons_succ]
          refine take_of (some 30) (i := 7) (v := ?vq2_7) rfl rfl (by kernel_rfl) (by kernel_rfl) (by kernel_rfl) (fun _ _ _ h => h) (Or.inl ⟨by rfl, ?hyq2_7⟩) (by assumption) ?restq2_7
          case hyq2_7 => (intro w hSw; (try dsimp only at hSw); go_simp; try with_reducible rfl)
          try simp only [Act.put, List.setIfInBounds_toArray, List.set_cons_zero, List.set_cons_succ]
          refine wpAnyH_ready (rs := [8]) (by kernel_rfl) (by simp) ?_
          refine AllReadyH.cons rfl (fun K hK => ?_) AllReadyH.nil
          go_simp
          (go_at_call 57; refine (itoa_any m hm12 _ (tab_below HT.out (bl_drew BW.out))).mono ?_; rintro e w3 ⟨rfl, hb⟩; have x0 : w3.cell? ⟨b, off + j * 2, none⟩ = some (.string cd) := (hb.cell (p := ⟨b, off + j * 2, none⟩) (by show b < _; simpa using hbb)).trans (by simpa using hc0); have hs3 : wr.heap.size ≤ w3.heap.size := hb.size; have BJ3 := Lib.hid (bl_trans (bl_drew BJ.out) hb); have HO3 := Lib.hid (own_below HO.out ((bl_drew (Below.refl wr.heap.size wr)).trans hb)); clear hb)
          go_wp2_with fail
          refine hK.out _ _ (by (try dsimp only); go_keep) (fun hHeld => ?_)
          clear hK K
          try simp only [Act.put, List.setIfInBounds_toArray, List.set_cons_zero, List.set_cons_succ]
          refine take_of (some 32) (i := 9) (v := ?vq2_9) rfl rfl (by kernel_rfl) (by kernel_rfl) (by kernel_rfl) (fun _ _ _ h => h) (Or.inl ⟨by rfl, ?hyq2_9⟩) (by assumption) ?restq2_9
          case hyq2_9 => (intro w hSw; (try dsimp only at hSw); go_simp; try with_reducible rfl)
          try simp only [Act.put, List.setIfInBounds_toArray, List.set_cons_zero, List.set_cons_succ]
          refine wpAnyH_ready (rs := [10]) (by kernel_rfl) (by simp) ?_
          refine AllReadyH.cons rfl (fun K hK => ?_) AllReadyH.nil
          go_simp
          (skip)
          go_wp2_with fail
          refine hK.out _ _ (by (try dsimp only); go_keep) (fun hHeld => ?_)
          clear hK K
          try simp only [Act.put, List.setIfInBounds_toArray, List.set_cons_zero, List.set_cons_succ]
          refine wpAnyH_ready (rs := [11]) (by kernel_rfl) (by simp) ?_
          refine AllReadyH.cons rfl (fun K hK => ?_) AllReadyH.nil
          rw [if_pos (by rfl)]
          (refine wp_append_ownS _ (.tmp 23) (.tmp 33) 85 (by rfl) w1.heap.size 9 i0 Tryd.underlying85 hi0 hi1 hi2 hi3 _ (bW xs ls j).length ((bW xs ls j).map Value.string) (by rfl) (HO3.out.alloc _) ⟨w3.heap.size, 0, none⟩ (catS (catS cd ⟨#[61]⟩) (numS m)) (by rfl) (by simp) (by omega) (by simp; omega) ?_; intro v2 w5 hown5 hg5 hat5; have HB5 := Lib.hid (below_growS BJ3.out HO3.out hg5 (Nat.le_refl _) (by omega)); have x1 : w5.cell? ⟨b, off + j * 2, none⟩ = some (.string cd) := (HB5.out.cell (p := ⟨b, off + j * 2, none⟩) hbw).trans ((BJ.out.cell (p := ⟨b, off + j * 2, none⟩) hbw).symm.trans hc0); have HO5 := Lib.hid hown5; clear hown5 hg5 hat5)
          refine hK.out _ _ (by (try dsimp only); go_keep) (fun hHeld => ?_)
          clear hK K
          try simp only [Act.put, List.setIfInBounds_toArray, List.set_cons_zero, List.set_cons_succ]
          refine take_of (some 6) (i := 12) (v := ?vq2_12) rfl rfl (by kernel_rfl) (by kernel_rfl) (by kernel_rfl) (fun _ _ _ h => h) (Or.inl ⟨by rfl, ?hyq2_12⟩) (by assumption) ?restq2_12
          case hyq2_12 => (intro w hSw; (try dsimp only at hSw); go_simp; try with_reducible rfl)
          try simp only [Act.put, List.setIfInBounds_toArray, List.set_cons_zero, List.set_cons_succ]
          refine wpAnyH_done (by kernel_rfl) ?_ _
          refine NoPanic.normal ?_
          go_wp2
          go_roundw
          case rel => exact ⟨j + 1, by omega, by go_num, by rw [HN.out]; unfold OwnW; rw [List.length_append, List.map_append]; exact HO5.out, HB5.out⟩
          case measure => simp [intOf]; omega
        · have HN := Lib.hid (bW_no hik hxk hv0)
          clear hik hxk hbj hc0 hc1
          go_wp2
          go_roundw
          case rel => exact ⟨j + 1, by omega, by go_num, by rw [HN.out]; exact HO.out, BJ.out⟩
          case measure => simp [intOf]; omega
      · have hjn : j = xs.length := by omega
        have HEE := Lib.hid (show blS xs ls = jnW (bW xs ls j) by rw [blS_yes HB.out, ← hjn])
        obtain ⟨W, hW⟩ : ∃ W, bW xs ls j = W := ⟨_, rfl⟩
        have hWE : ∀ y ∈ W, y.data.toList.length ≤ 16 := by rw [← hW]; exact HBE.out j
        have hWL := joinW_len W hWE
        rw [hW] at HO HEE hlj
        have hj32 : j ≤ 32 := by omega
        rcases HO.out.2 with ⟨hsn, h2⟩ | ⟨g, cap, cur, hsg, hg, hgl, hnc, hcm, hcs, _⟩
        · have hW0 : W = [] := List.eq_nil_of_length_eq_zero h2
          subst hW0
          subst hsn
          clear hbj hjn h2 hW hWE hWL
          go_wp2_with (go_at_call 62; refine (Tryd.strings_Join_none _ _ _ _).mono ?_; rintro e w3 ⟨rfl, rfl⟩)
          go_ret2
          exact pair_s (by rw [HEE.out]; rfl) rfl BW.out
        · subst hsg
          have hc := HO.out.cells (g := g) rfl
          have hgs : g < wr.heap.size := (HO.out.lt g rfl).2
          have HJ := Lib.hid (Tryd.strings_Join g 0 cap W ⟨#[32]⟩ wr (fun i y hy => by
            have := hc i (.string y) (by rw [List.getElem?_map, hy]; rfl)
            by_cases hi : i = 0
            · subst hi; simpa [Addr.add] using this
            · simpa [Addr.add, hi] using this) hgs (by omega) hnc (by show (Lib.join (W.map (·.data.toList)) [32]).length ≤ _; omega))
          clear hc hbj hgl hcs hjn hW hWE hWL
          go_wp2_with (go_at_call 62; refine HJ.out.mono ?_; rintro e w3 ⟨rfl, hb⟩; have HB3 := Lib.hid hb; clear hb)
          go_ret2
          exact pair_s (by rw [HEE.out]; rfl) rfl (bl_trans BW.out HB3.out)
set_option maxHeartbeats 4000000 in
theorem lawBillText (A : Option Addr) (n c : Nat) (xs : List Srt) (A' : Option Addr) (n' c' : Nat) (ls : List Int) (w : World) (hr : Rd cSrt 2 w w.heap.size A n xs) (hn : n ≤ maxLen) (hok : ∀ x ∈ xs, okSrt x) (hrl : Rd cI 1 w w.heap.size A' n' ls) (hnn : n' ≤ maxLen) (_ : ∀ x ∈ ls, I64 x) (hT : Lib.TabIs Tryd.prog w "internal/strconv.uint64pow10" .u64 Lib.pow10Tab) :
    Calls Tryd.prog 7 #[.slice A n c, .slice A' n' c'] w fun e w' => e = .returned (.bool (true)) ∧ Below w.heap.size w w' := by
  have HTT := Lib.hid hT
  have H1 := Lib.hid (fun A1 A2 c1 c2 W hs => specBT_any A1 A2 n c1 n' c2 xs ls W hs)
  have H2 := Lib.hid (fun A1 A2 c1 c2 W hs ht => implBT_any A1 A2 n c1 n' c2 xs ls W hs ht)
  obtain ⟨s, hs⟩ : ∃ s, blS xs ls = s := ⟨_, rfl⟩
  obtain ⟨v, hv⟩ : ∃ v, blB xs ls = v := ⟨_, rfl⟩
  rw [hs, hv] at H1 H2
  clear hT hs hv
  rcases v with _ | _
  · skip
    have hn' := hn
    unfold maxLen at hn'
    have hnn' := hnn
    unfold maxLen at hnn'
    have HN := Lib.hid hn
    have HNN := Lib.hid hnn
    have HOK := Lib.hid hok
    have HS := Lib.hid (szSortS_any A n c _ xs 1048576 w hr (Nat.le_refl _) hn hok (by omega) (by omega))
    clear hn hok hnn
    by_cases hbig : (1048576 : Int) < (n' : Int)
    · go_enter Tryd.func7, Tryd.ntmps7
      go_wp2
      go_ret
      exact ⟨rfl, by repeat (first | (with_reducible exact Below.refl _ _) | (with_reducible assumption) | (with_reducible refine bl_alloc ?_ _) | (with_reducible refine bl_drew ?_) | (with_reducible refine bl_drewN ?_ _) | ((with_reducible refine bl_set ?_ ?hb _); (case hb => first | (simp; done) | omega | (simp; omega))) | (with_reducible refine bl_trans ?_ (by assumption)))⟩
    go_enter Tryd.func7, Tryd.ntmps7
    go_wp2_with fail
    refine HS.out.mono ?_
    rintro e w0 ⟨r, rfl, hsz, hb0⟩
    have HSZ := Lib.hid hsz
    have HB0 := Lib.hid hb0
    clear hsz hb0
    by_cases hneg : r < 0
    · go_wp2_with fail
      go_ret
      exact ⟨rfl, HB0.out⟩
    have hn2 : n ≤ 1048576 := by
      rcases HSZ.out with h | h <;> omega
    have hn3 : n' ≤ 1048576 := by omega
    have HT := Lib.hid (fun (W : World) (h : Below w.heap.size w W) => toSrtS_cap A n c _ xs W (hr.below h) h.size hn2)
    have HI := Lib.hid (fun (W : World) (h : Below w.heap.size w W) => toIntS_cap A' n' c' _ ls W (hrl.below h) h.size hn3)
    go_wp2_with fail
    refine (HT.out _ HB0.out).mono ?_
    rintro e w1 ⟨A1, rfl, h1, hb⟩
    have HB1 := Lib.hid (bl_trans HB0.out hb)
    clear hb
    go_wp2_with fail
    refine (HI.out _ HB1.out).mono ?_
    rintro e w2 ⟨A2, rfl, h2, hb⟩
    have HB2 := Lib.hid (bl_trans HB1.out hb)
    have HO2 := Lib.hid (show SI w2 A1 A2 n n' xs ls from ⟨(h1.below hb).rd, h2.rd, hn2, hn3, HOK.out⟩)
    clear hb h1 h2
    go_wp2_with fail
    refine (H1.out _ _ _ _ _ HO2.out).mono ?_
    rintro e w3 ⟨rfl, hb⟩
    have HB3 := Lib.hid (bl_trans HB2.out hb)
    clear hb
    go_wp2_with fail
    refine (HT.out _ HB3.out).mono ?_
    rintro e w4 ⟨A4, rfl, h4, hb⟩
    have HB4 := Lib.hid (bl_trans HB3.out hb)
    clear hb
    go_wp2_with fail
    refine (HI.out _ HB4.out).mono ?_
    rintro e w5 ⟨A5, rfl, h5, hb⟩
    have HB5 := Lib.hid (bl_trans HB4.out hb)
    have HO5 := Lib.hid (show SI w5 A4 A5 n n' xs ls from ⟨(h4.below hb).rd, h5.rd, hn2, hn3, HOK.out⟩)
    have H4 := Lib.hid (h4.below hb)
    have H5 := Lib.hid h5
    clear hb h4 h5
    go_wp2_with fail
    refine (H2.out _ _ _ _ _ HO5.out (tab_below HTT.out HB5.out)).mono ?_
    rintro e w6 ⟨rfl, hb⟩
    have HB6 := Lib.hid (bl_trans HB5.out hb)
    have H46 := Lib.hid (H4.out.below hb)
    have H56 := Lib.hid (H5.out.below hb)
    clear hb
    go_wp2_with fail
    refine (HT.out _ HB6.out).mono ?_
    rintro e w7 ⟨A7, rfl, h7, hb⟩
    have HB7 := Lib.hid (bl_trans HB6.out hb)
    have H47 := Lib.hid (H46.out.below hb)
    have H57 := Lib.hid (H56.out.below hb)
    clear hb
    go_wp2_with fail
    refine (eqSrtS_same _ _ _ _ _ _ _ xs _ H47.out.rd h7.rd (Nat.le_refl _) (Nat.le_refl _) HN.out).mono ?_
    rintro e w8 ⟨rfl, hb⟩
    have HB8 := Lib.hid (bl_trans HB7.out hb)
    have H58 := Lib.hid (H57.out.below hb)
    clear hb h7
    go_wp2_with fail
    refine (HI.out _ HB8.out).mono ?_
    rintro e w9 ⟨A9, rfl, h9, hb⟩
    have HB9 := Lib.hid (bl_trans HB8.out hb)
    have H59 := Lib.hid (H58.out.below hb)
    clear hb
    go_wp2_with fail
    refine (eqIntS_any _ _ _ _ _ _ _ _ _ _ _ H59.out.rd h9.rd HNN.out HNN.out).mono ?_
    rintro e w10 ⟨rfl, mm, rfl⟩
    rw [eqL_same]
    go_wp2
    go_ret
    exact ⟨rfl, bl_drewN HB9.out mm⟩
  · skip
    have hn' := hn
    unfold maxLen at hn'
    have hnn' := hnn
    unfold maxLen at hnn'
    have HN := Lib.hid hn
    have HNN := Lib.hid hnn
    have HOK := Lib.hid hok
    have HS := Lib.hid (szSortS_any A n c _ xs 1048576 w hr (Nat.le_refl _) hn hok (by omega) (by omega))
    clear hn hok hnn
    by_cases hbig : (1048576 : Int) < (n' : Int)
    · go_enter Tryd.func7, Tryd.ntmps7
      go_wp2
      go_ret
      exact ⟨rfl, by repeat (first | (with_reducible exact Below.refl _ _) | (with_reducible assumption) | (with_reducible refine bl_alloc ?_ _) | (with_reducible refine bl_drew ?_) | (with_reducible refine bl_drewN ?_ _) | ((with_reducible refine bl_set ?_ ?hb _); (case hb => first | (simp; done) | omega | (simp; omega))) | (with_reducible refine bl_trans ?_ (by assumption)))⟩
    go_enter Tryd.func7, Tryd.ntmps7
    go_wp2_with fail
    refine HS.out.mono ?_
    rintro e w0 ⟨r, rfl, hsz, hb0⟩
    have HSZ := Lib.hid hsz
    have HB0 := Lib.hid hb0
    clear hsz hb0
    by_cases hneg : r < 0
    · go_wp2_with fail
      go_ret
      exact ⟨rfl, HB0.out⟩
    have hn2 : n ≤ 1048576 := by
      rcases HSZ.out with h | h <;> omega
    have hn3 : n' ≤ 1048576 := by omega
    have HT := Lib.hid (fun (W : World) (h : Below w.heap.size w W) => toSrtS_cap A n c _ xs W (hr.below h) h.size hn2)
    have HI := Lib.hid (fun (W : World) (h : Below w.heap.size w W) => toIntS_cap A' n' c' _ ls W (hrl.below h) h.size hn3)
    go_wp2_with fail
    refine (HT.out _ HB0.out).mono ?_
    rintro e w1 ⟨A1, rfl, h1, hb⟩
    have HB1 := Lib.hid (bl_trans HB0.out hb)
    clear hb
    go_wp2_with fail
    refine (HI.out _ HB1.out).mono ?_
    rintro e w2 ⟨A2, rfl, h2, hb⟩
    have HB2 := Lib.hid (bl_trans HB1.out hb)
    have HO2 := Lib.hid (show SI w2 A1 A2 n n' xs ls from ⟨(h1.below hb).rd, h2.rd, hn2, hn3, HOK.out⟩)
    clear hb h1 h2
    go_wp2_with fail
    refine (H1.out _ _ _ _ _ HO2.out).mono ?_
    rintro e w3 ⟨rfl, hb⟩
    have HB3 := Lib.hid (bl_trans HB2.out hb)
    clear hb
    go_wp2_with fail
    refine (HT.out _ HB3.out).mono ?_
    rintro e w4 ⟨A4, rfl, h4, hb⟩
    have HB4 := Lib.hid (bl_trans HB3.out hb)
    clear hb
    go_wp2_with fail
    refine (HI.out _ HB4.out).mono ?_
    rintro e w5 ⟨A5, rfl, h5, hb⟩
    have HB5 := Lib.hid (bl_trans HB4.out hb)
    have HO5 := Lib.hid (show SI w5 A4 A5 n n' xs ls from ⟨(h4.below hb).rd, h5.rd, hn2, hn3, HOK.out⟩)
    have H4 := Lib.hid (h4.below hb)
    have H5 := Lib.hid h5
    clear hb h4 h5
    go_wp2_with fail
    refine (H2.out _ _ _ _ _ HO5.out (tab_below HTT.out HB5.out)).mono ?_
    rintro e w6 ⟨rfl, hb⟩
    have HB6 := Lib.hid (bl_trans HB5.out hb)
    have H46 := Lib.hid (H4.out.below hb)
    have H56 := Lib.hid (H5.out.below hb)
    clear hb
    go_wp2_with fail
    refine (HT.out _ HB6.out).mono ?_
    rintro e w7 ⟨A7, rfl, h7, hb⟩
    have HB7 := Lib.hid (bl_trans HB6.out hb)
    have H47 := Lib.hid (H46.out.below hb)
    have H57 := Lib.hid (H56.out.below hb)
    clear hb
    go_wp2_with fail
    refine (eqSrtS_same _ _ _ _ _ _ _ xs _ H47.out.rd h7.rd (Nat.le_refl _) (Nat.le_refl _) HN.out).mono ?_
    rintro e w8 ⟨rfl, hb⟩
    have HB8 := Lib.hid (bl_trans HB7.out hb)
    have H58 := Lib.hid (H57.out.below hb)
    clear hb h7
    go_wp2_with fail
    refine (HI.out _ HB8.out).mono ?_
    rintro e w9 ⟨A9, rfl, h9, hb⟩
    have HB9 := Lib.hid (bl_trans HB8.out hb)
    have H59 := Lib.hid (H58.out.below hb)
    clear hb
    go_wp2_with fail
    refine (eqIntS_any _ _ _ _ _ _ _ _ _ _ _ H59.out.rd h9.rd HNN.out HNN.out).mono ?_
    rintro e w10 ⟨rfl, mm, rfl⟩
    rw [eqL_same]
    go_wp2
    go_ret
    exact ⟨rfl, bl_drewN HB9.out mm⟩
end Go.Proofs.YtgfobchpkjpiiaaDoor
