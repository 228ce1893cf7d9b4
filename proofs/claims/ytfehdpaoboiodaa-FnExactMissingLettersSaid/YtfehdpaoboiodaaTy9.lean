/-
  The need of copy: the walks that count.
-/
import Derived.Test.YtfehdpaoboiodaaTy8
namespace Go.Proofs.Ytfehdpaoboiodaa
open Go.RowKit
set_option linter.unusedVariables false
attribute [local go_sem ↓] Go.wp_at_zero Go.wp_at_succ

/-- a font and words, as they lie in memory -/
def SW (w : World) (A A' : Option Addr) (n n' : Nat) (xs : List Srt) (ws : List ByteArray) : Prop :=
  Rd cSrt 2 w w.heap.size A n xs ∧ Rd cS 1 w w.heap.size A' n' ws ∧ n ≤ 1048576 ∧ n' ≤ 1048576 ∧ (∀ x ∈ xs, okSrt x) ∧ ∀ s ∈ ws, s.size ≤ maxLen
theorem SW.below {w w' : World} {A A' : Option Addr} {n n' : Nat} {xs : List Srt} {ws : List ByteArray} (h : SW w A A' n n' xs ws) (hb : Below w.heap.size w w') : SW w' A A' n n' xs ws :=
  ⟨(h.1.below hb).more hb.size, (h.2.1.below hb).more hb.size, h.2.2⟩
set_option maxHeartbeats 2000000 in
theorem biNeed_any (A A' : Option Addr) (n c n' c' : Nat) (xs : List Srt) (ws : List ByteArray) (w : World) (hh : SW w A A' n n' xs ws) (hf : fontB xs = true) (hw : wordsB ws = true) :
    Calls Try.prog 61 #[.slice A n c, .slice A' n' c'] w (RetS (needR xs ws) (needB xs ws) w) := by
  obtain ⟨h1, h2, h3, h4, _, _⟩ := hh
  have hl := h1.1
  have hl' := h2.1
  obtain ⟨hwe, hwl⟩ := words_each hw
  have hn32 := (font_len hf).2
  have HX := Lib.hid (font_all hf)
  have HWE := Lib.hid hwe
  have HNL := Lib.hid (needTo_len xs ws)
  have HNB := Lib.hid (needTo_bd (xs := xs) hwe)
  clear hf hw hwe
  obtain ⟨i0, hi0, hi1, hi2, hi3⟩ := info_parts infoI
  go_enter Try.func61, Try.ntmps61
  go_wp2_with (at_make; refine wpList_make_full _ rfl _ _ 39 rfl w.heap.size 3 i0 (.int .i64 0) 1 Try.underlying39 hi0 hi1 hi2 .i64 .i64 n n n rfl rfl rfl rfl (by rw [hi3]; omega) (by unfold maxLen; omega) (Nat.le_refl _) ?_; intro w1 hown hg)
  have hbl : Below w.heap.size w w1 := (Below.refl _ _).grown hg (Nat.le_refl _) (by simp)
  have hsz1 : w.heap.size < w1.heap.size := (hown.lt _ rfl).2
  have hwr := own_made hown rfl
  have HW1 := Lib.hid hwr
  clear hown hg hwr
  go_loopw [18] (fun i wr => ∃ k : Nat, k ≤ n' ∧ i = .int .i64 k ∧ Below w.heap.size w wr ∧ w.heap.size < wr.heap.size ∧ Wr wr w.heap.size (some ⟨w.heap.size, 0, none⟩) n (needTo xs ws k) ∧ Hid ((ws.take k).all (setB xs) = true)) (fun i _ => n' - (intOf i).toNat)
  case atStart => exact ⟨0, Nat.zero_le _, rfl, hbl, hsz1, by show Wr w1 _ _ n (List.replicate xs.length 0); rw [hl]; exact HW1.out, rfl⟩
  case round =>
    obtain ⟨k, hk, rfl, hb, hsz, hwr, HA⟩ := hrel
    by_cases hlt : k < n'
    · obtain ⟨wo, rfl⟩ : ∃ wo : World, wo = wr := ⟨_, rfl⟩
      obtain ⟨bs, offs, s, rfl, hbs, hs, c0⟩ := (h2.below hb).atS hlt
      have hws := word_len (HWE.out s (List.mem_of_getElem? hs))
      have HS := Lib.hid hs
      have HB := Lib.hid hb
      have HN := Lib.hid hwr
      have hrr := h1.below hb
      have HRR := Lib.hid hrr
      have hBs : w.heap.size ≤ wo.heap.size := by omega
      obtain ⟨s1, s2⟩ := setL_in xs s
      have HS1 := Lib.hid s1
      have HNS := Lib.hid (needTo_snoc (xs := xs) hs)
      have hTS := tySet_any A n c _ xs s wo hrr hBs h3 (by omega)
      have HNK := Lib.hid (HNB.out k)
      clear hs hb hwr hrr s1
      rcases hv : setB xs s with _ | _
      · have HF := Lib.hid (show needB xs ws = false from all_no HS.out hv)
        rw [hv] at hTS
        have HTS := Lib.hid hTS
        clear hTS hv
        go_wp2_with fail
        refine HTS.out.mono ?_
        rintro e w2 ⟨A2, c2, rfl, hw2, hb2⟩
        clear hw2
        go_wp2
        go_ret2
        rw [needR_no HF.out, HF.out]
        exact rets_nil rfl (bl_trans HB.out hb2) _ _
      · have HV := Lib.hid hv
        rw [hv] at hTS
        obtain ⟨L, hL⟩ : ∃ L, setL xs s = L := ⟨_, rfl⟩
        rw [hL] at hTS HS1 HNS s2
        have HTS := Lib.hid hTS
        have hL16 : L.length ≤ 16 := by omega
        clear hTS hv hL
        go_wp2_with fail
        refine HTS.out.mono ?_
        rintro e w2 ⟨A2, c2, rfl, hw2, hb2⟩
        have HW2 := Lib.hid hw2
        have HN2 := Lib.hid (HN.out.below hb2)
        have HB2 := Lib.hid (bl_trans HB.out hb2)
        have hs2 := hb2.size
        clear hw2 hb2
        go_wp2
        go_loopw [32] (fun i wi => ∃ j : Nat, j ≤ L.length ∧ i = .int .i64 j ∧ Below w.heap.size w wi ∧ w.heap.size < wi.heap.size ∧ Wr wi w.heap.size (some ⟨w.heap.size, 0, none⟩) n (addTo (needTo xs ws k) L j) ∧ Wr wi wo.heap.size A2 L.length L) (fun i _ => L.length - (intOf i).toNat)
        case atStart => exact ⟨0, Nat.zero_le _, rfl, HB2.out, by omega, HN2.out, HW2.out⟩
        case round =>
          obtain ⟨j, hj, rfl, hbi, hszi, hni, hli⟩ := hrel
          by_cases hlj : j < L.length
          · obtain ⟨bL, offL, i, rfl, _, hij, hci⟩ := hli.rd.atI hlj
            obtain ⟨ii0, ii1⟩ := HS1.out i (List.mem_of_getElem? hij)
            obtain ⟨ii, rfl⟩ : ∃ ii : Nat, i = (ii : Int) := ⟨i.toNat, by omega⟩
            have hiin : ii < n := by omega
            obtain ⟨g, e, _, hlg, hcg, hfg⟩ := hni.2 (by omega)
            obtain rfl : w.heap.size = g := by simpa using e
            have hnl := hni.1
            obtain ⟨v, hv⟩ : ∃ v, (addTo (needTo xs ws k) L j)[ii]? = some v := ⟨_, List.getElem?_eq_getElem (by omega)⟩
            have hcv := hcg ii v hv
            have hfv := hfg ii
            have hvb := addTo_bd (L := L) HNK.out (by omega) j v (List.mem_of_getElem? hv)
            have HST := Lib.hid (addTo_snoc hij hv)
            have HNI := Lib.hid hni
            have HLI := Lib.hid hli
            have HBI := Lib.hid hbi
            have k0 : (0 : Int) ≤ (ii : Int) := by omega
            have k1 : (ii : Int) < (n : Int) := by omega
            clear hij e hcg hfg hv hni hli hbi hnl
            go_wp2
            go_roundw
            case rel =>
              refine ⟨j + 1, by omega, by go_num, HBI.out.setCell (Nat.le_refl _) _, by simpa [World.setCell] using hszi, ?_, wr_other HLI.out hsz _ _⟩
              rw [HST.out]
              exact wr_store HNI.out hiin _
            case measure => simp [intOf]; omega
          · obtain rfl : j = L.length := by omega
            have HBI := Lib.hid hbi
            have HNI := Lib.hid hni
            clear hbi hni hli
            go_wp2
            go_roundw
            case rel => exact ⟨k + 1, by omega, by go_num, HBI.out, hszi, by rw [HNS.out]; exact HNI.out, all_snoc HS.out HA.out HV.out⟩
            case measure => simp [intOf]; omega
    · obtain rfl : k = n' := by omega
      have HNT := Lib.hid (show needB xs ws = true from all_end (by omega) HA.out)
      have HQ := Lib.hid (show needL xs ws = needTo xs ws k by unfold needL; rw [hl'])
      have HQL := Lib.hid (show (needTo xs ws k).length = n by rw [HNL.out, hl])
      have HWR := Lib.hid hwr
      have HB := Lib.hid hb
      clear hwr hb
      go_wp2
      go_ret2
      rw [needR_yes HNT.out, HNT.out, HQ.out]
      exact ⟨some ⟨w.heap.size, 0, none⟩, n, by rw [HQL.out]; rfl, by rw [HQL.out]; exact HWR.out, HB.out⟩
end Go.Proofs.Ytfehdpaoboiodaa
