/-
  Letters that no sort has: contracts of both sides; the law's walk.
-/
import Derived.Test.YtfehdpaoboiodaaTy15
namespace Go.Proofs.Ytfehdpaoboiodaa
open Go.RowKit
set_option linter.unusedVariables false
attribute [local go_sem ↓] Go.wp_at_zero Go.wp_at_succ

set_option maxHeartbeats 4000000 in
theorem specML_any (A A' : Option Addr) (n c n' c' : Nat) (xs : List Srt) (ws : List ByteArray) (w : World) (hh : SW w A A' n n' xs ws) :
    Calls Try.prog 31 #[.slice A n c, .slice A' n' c'] w (PairS (mlV xs ws) (mlB xs ws) w) := by
  obtain ⟨h1, h2, h3, h4, h5, h6⟩ := hh
  have hF := tyFont_any A n c _ xs w h1 (Nat.le_refl _) h3 h5
  have hl := h1.1
  have hl' := h2.1
  have h4m : n' ≤ maxLen := by unfold maxLen; omega
  have H6 := Lib.hid h6
  have H4M := Lib.hid h4m
  clear h5 h6 h4m
  rcases ml_parts xs ws with ⟨p1, p2⟩ | ⟨p1, p2, p3⟩ | ⟨hf, hw, hml⟩
  · rw [p1] at hF
    have HF := Lib.hid hF
    have HC := Lib.hid p2
    clear hF p1 p2
    go_enter Try.func31, Try.ntmps31
    go_wp2_with (go_at_call 46; refine HF.out.mono ?_; rintro e w' ⟨rfl, hb⟩)
    go_ret2
    exact pair_s (mlV_no HC.out).symm HC.out.symm hb
  · rw [p1] at hF
    have HF := Lib.hid hF
    have HC := Lib.hid p3
    have HP := Lib.hid p2
    clear hF p1 p2 p3
    go_enter Try.func31, Try.ntmps31
    go_wp2_with (first | (go_at_call 46; refine HF.out.mono ?_; rintro e w' ⟨rfl, hb⟩) | (go_at_call 57; refine (tyWords_any _ _ _ _ ws _ ((h2.below hb).more hb.size) H4M.out H6.out).mono ?_; rw [HP.out]; rintro e w'' ⟨rfl, rfl⟩))
    go_ret2
    exact pair_s (mlV_no HC.out).symm HC.out.symm hb
  rw [hf] at hF
  have HF := Lib.hid hF
  have HW := Lib.hid hw
  have HML := Lib.hid hml
  have HWE := Lib.hid (words_each hw).1
  clear hf hw hF hml
  go_enter Try.func31, Try.ntmps31
  go_wp2_with fail
  refine HF.out.mono ?_
  rintro e wv ⟨rfl, hb1⟩
  have hv1 := (h1.below hb1).more hb1.size
  have hv2 := (h2.below hb1).more hb1.size
  have HV1 := Lib.hid hb1
  clear hb1
  go_wp2_with (go_at_call 57; refine (tyWords_any _ _ _ _ ws _ hv2 H4M.out H6.out).mono ?_; rw [HW.out]; rintro e w'' ⟨rfl, hww⟩; obtain rfl := hww)
  go_loopw [6, 7] (fun o b wr => ∃ j : Nat, j ≤ 26 ∧ b = .int .i32 (97 + (j : Int)) ∧ o = .string (mlTo xs ws j) ∧ Below wv.heap.size wv wr) (fun _ b _ => (123 - intOf b).toNat)
  case atStart => exact ⟨0, by omega, rfl, rfl, Below.refl _ _⟩
  case round =>
    obtain ⟨j, hj, rfl, rfl, hb⟩ := hrel
    have hmz := mlTo_size xs ws j
    by_cases hlt : j < 26
    · obtain ⟨wo, rfl⟩ : ∃ wo : World, wo = wr := ⟨_, rfl⟩
      have hconv := conv_ltr wo j
      have hwu : IntKind.u8.wrap (97 + (j : Int)) = 97 + (j : Int) := IntWalk.u8_in _ (by omega)
      have HB := Lib.hid hb
      have hsz := hb.size
      clear hb
      go_wp2
      go_loopw [9, 31] (fun u i wi => ∃ k : Nat, k ≤ n' ∧ i = .int .i64 k ∧ u = .bool ((ws.take k).any (hasB · j)) ∧ Below wv.heap.size wv wi) (fun _ i _ => n' - (intOf i).toNat)
      case atStart => exact ⟨0, Nat.zero_le _, rfl, rfl, bl_alloc HB.out _⟩
      case round =>
        obtain ⟨k, hk, rfl, rfl, hbi⟩ := hrel
        by_cases hlk : k < n'
        · obtain ⟨bs, offs, s, rfl, hbs, hs, c0⟩ := (hv2.below hbi).atS hlk
          have hws := word_len (HWE.out s (List.mem_of_getElem? hs))
          have HSN := Lib.hid (any_snoc (p := (hasB · j)) hs)
          have HBI := Lib.hid hbi
          obtain ⟨U, hU⟩ : ∃ U, (ws.take k).any (hasB · j) = U := ⟨_, rfl⟩
          rw [hU] at HSN ⊢
          clear hs hbi hU
          obtain ⟨wi, rfl⟩ : ∃ wi : World, wi = wr := ⟨_, rfl⟩
          go_wp2
          go_loopw [9, 12] (fun u i wq => ∃ a : Nat, a ≤ s.size ∧ i = .int .i64 a ∧ u = .bool (U || ((bytes s).take a).any (· == UInt8.ofNat (97 + j))) ∧ Below wv.heap.size wv wq) (fun _ i _ => s.size - (intOf i).toNat)
          case atStart => exact ⟨0, Nat.zero_le _, rfl, by simp, HBI.out⟩
          case round =>
            obtain ⟨a, ha, rfl, rfl, hbq⟩ := hrel
            have HBQ := Lib.hid hbq
            clear hbq
            by_cases hla : a < s.size
            · obtain ⟨b, hbb⟩ : ∃ b, (bytes s)[a]? = some b := ⟨_, List.getElem?_eq_getElem (by rw [bytes_len]; exact hla)⟩
              have hext := ext_one (j := j) hbb
              have HA1 := Lib.hid (any_snoc (p := (· == UInt8.ofNat (97 + j))) hbb)
              obtain ⟨V, hV⟩ : ∃ V, (U || ((bytes s).take a).any (· == UInt8.ofNat (97 + j))) = V := ⟨_, rfl⟩
              have HA2 := Lib.hid (show (U || ((bytes s).take (a + 1)).any (· == UInt8.ofNat (97 + j))) = (V || (b == UInt8.ofNat (97 + j))) by rw [HA1.out, ← hV, Bool.or_assoc])
              obtain ⟨q, hq⟩ : ∃ q, (b == UInt8.ofNat (97 + j)) = q := ⟨_, rfl⟩
              rw [hV]
              rw [hq] at hext HA2
              clear hbb hV hq HA1
              rcases V with _ | _
              · rcases q with _ | _
                all_goals
                  go_wp2
                  go_roundw
                  case rel => exact ⟨a + 1, by omega, by go_num, by rw [HA2.out]; rfl, HBQ.out⟩
                  case measure => simp [intOf]; omega
              · go_wp2
                go_roundw
                case rel => exact ⟨a + 1, by omega, by go_num, by rw [HA2.out]; rfl, HBQ.out⟩
                case measure => simp [intOf]; omega
            · obtain rfl : a = s.size := by omega
              have HEN := Lib.hid (any_end (xs := bytes s) (p := (· == UInt8.ofNat (97 + j))) (k := s.size) (by rw [bytes_len]; exact Nat.le_refl _))
              have HSN2 := Lib.hid (show (ws.take (k + 1)).any (hasB · j) = (U || ((bytes s).take s.size).any (· == UInt8.ofNat (97 + j))) by rw [HSN.out, HEN.out]; rfl)
              go_wp2
              go_roundw
              case rel => exact ⟨k + 1, by omega, by go_num, by rw [HSN2.out], HBQ.out⟩
              case measure => simp [intOf]; omega
        · obtain rfl : k = n' := by omega
          have HEN := Lib.hid (show (ws.take k).any (hasB · j) = usedB ws j from any_end (by omega))
          rw [HEN.out]
          have HBI := Lib.hid hbi
          have hbz := hbi.size
          have hrv := hv1.below hbi
          have HRV := Lib.hid hrv
          have hls := ltr_size j
          clear hbi hrv
          rcases hu : usedB ws j with _ | _
          · have HN := Lib.hid (mlTo_no (xs := xs) (.inl hu))
            clear hu
            go_wp2
            go_roundw
            case rel => exact ⟨j + 1, by omega, by go_num, by rw [HN.out], HBI.out⟩
            case measure => simp [intOf]; omega
          · obtain ⟨F, hF⟩ : ∃ F, findI (codeB (ltr j)) xs = F := ⟨_, rfl⟩
            have HFD := Lib.hid (tyFind_any A n c _ xs (ltr j) _ HRV.out hbz h3)
            rw [hF] at HFD
            by_cases hneg : F < 0
            · have HN := Lib.hid (mlTo_yes hu (by rw [hF]; exact hneg))
              clear hu hF
              go_wp2_with (go_at_call 48; refine HFD.out.mono ?_; rintro e w' ⟨rfl, hb⟩)
              go_roundw
              case rel => exact ⟨j + 1, by omega, by go_num, by rw [HN.out], bl_trans HBI.out hb⟩
              case measure => simp [intOf]; omega
            · have HN := Lib.hid (mlTo_no (ws := ws) (.inr (by rw [hF]; exact hneg)))
              clear hu hF
              go_wp2_with (go_at_call 48; refine HFD.out.mono ?_; rintro e w' ⟨rfl, hb⟩)
              go_roundw
              case rel => exact ⟨j + 1, by omega, by go_num, by rw [HN.out], bl_trans HBI.out hb⟩
              case measure => simp [intOf]; omega
    · obtain rfl : j = 26 := by omega
      go_wp2
      go_ret2
      exact pair_s (mlV_yes HML.out).symm HML.out.symm (bl_trans HV1.out hb)
def encL (j : Nat) : ByteArray := Utf8.encode (97 + (j : Int))
theorem encL_ltr {j : Nat} (h : j < 26) : encL j = ltr j := enc_ltr h
theorem run_conv_rune (w : World) (j : Nat) : (convert 21 9 (.int .i32 (97 + (j : Int)))).run Try.prog w = .ok (.string (encL j)) w :=
  run_convert_int_string w 21 9 .i32 (97 + (j : Int)) (by kernel_rfl) Try.underlying9
attribute [local go_sem high] run_conv_rune
attribute [local irreducible] encL
set_option maxHeartbeats 4000000 in
theorem implML_any (A A' : Option Addr) (n c n' c' : Nat) (xs : List Srt) (ws : List ByteArray) (w : World) (hh : SW w A A' n n' xs ws) :
    Calls Try.prog 33 #[.slice A n c, .slice A' n' c'] w (PairS (mlV xs ws) (mlB xs ws) w) := by
  obtain ⟨h1, h2, h3, h4, h5, h6⟩ := hh
  have hF := implIsFont_any A n c _ xs w h1 (Nat.le_refl _) h3 h5
  have hl := h1.1
  have hl' := h2.1
  have h4m : n' ≤ maxLen := by unfold maxLen; omega
  have H6 := Lib.hid h6
  have H4M := Lib.hid h4m
  clear h5 h6 h4m
  rcases ml_parts xs ws with ⟨p1, p2⟩ | ⟨p1, p2, p3⟩ | ⟨hf, hw, hml⟩
  · rw [p1] at hF
    have HF := Lib.hid hF
    have HC := Lib.hid p2
    clear hF p1 p2
    go_enter Try.func33, Try.ntmps33
    go_wp2_with (go_at_call 20; refine HF.out.mono ?_; rintro e w' ⟨rfl, hb⟩)
    go_ret2
    exact pair_s (mlV_no HC.out).symm HC.out.symm hb
  · rw [p1] at hF
    have HF := Lib.hid hF
    have HC := Lib.hid p3
    have HP := Lib.hid p2
    clear hF p1 p2 p3
    go_enter Try.func33, Try.ntmps33
    go_wp2_with (first | (go_at_call 20; refine HF.out.mono ?_; rintro e w' ⟨rfl, hb⟩) | (go_at_call 58; refine (areWords_any _ _ _ _ ws _ ((h2.below hb).more hb.size) H4M.out H6.out).mono ?_; rw [HP.out]; rintro e w'' ⟨rfl, rfl⟩))
    go_ret2
    exact pair_s (mlV_no HC.out).symm HC.out.symm hb
  rw [hf] at hF
  have HF := Lib.hid hF
  have HW := Lib.hid hw
  have HML := Lib.hid hml
  have HWE := Lib.hid (words_each hw).1
  clear hf hw hF hml
  go_enter Try.func33, Try.ntmps33
  go_wp2_with fail
  refine HF.out.mono ?_
  rintro e wv ⟨rfl, hb1⟩
  have hv1 := (h1.below hb1).more hb1.size
  have hv2 := (h2.below hb1).more hb1.size
  have HV1 := Lib.hid hb1
  clear hb1
  go_wp2_with (go_at_call 58; refine (areWords_any _ _ _ _ ws _ hv2 H4M.out H6.out).mono ?_; rw [HW.out]; rintro e w'' ⟨rfl, hww⟩; obtain rfl := hww)
  go_loopw [6, 7] (fun o b wr => ∃ j : Nat, j ≤ 26 ∧ b = .int .i32 (97 + (j : Int)) ∧ o = .string (mlTo xs ws j) ∧ Below wv.heap.size wv wr) (fun _ b _ => (123 - intOf b).toNat)
  case atStart => exact ⟨0, by omega, rfl, rfl, Below.refl _ _⟩
  case round =>
    obtain ⟨j, hj, rfl, rfl, hb⟩ := hrel
    have hmz := mlTo_size xs ws j
    by_cases hlt : j < 26
    · obtain ⟨wo, rfl⟩ : ∃ wo : World, wo = wr := ⟨_, rfl⟩
      have henc := encL_ltr hlt
      have h122 : (97 + (j : Int)) ≤ 122 := by omega
      have HB := Lib.hid hb
      have hsz := hb.size
      clear hb
      go_wp2
      go_loopw [9, 28] (fun u i wi => ∃ k : Nat, k ≤ n' ∧ i = .int .i64 k ∧ u = .bool ((ws.take k).any (hasB · j)) ∧ Below wv.heap.size wv wi) (fun _ i _ => n' - (intOf i).toNat)
      case atStart => exact ⟨0, Nat.zero_le _, rfl, rfl, HB.out⟩
      case round =>
        obtain ⟨k, hk, rfl, rfl, hbi⟩ := hrel
        by_cases hlk : k < n'
        · obtain ⟨bs, offs, s, rfl, hbs, hs, c0⟩ := (hv2.below hbi).atS hlk
          have HSN := Lib.hid (any_snoc (p := (hasB · j)) hs)
          have HBI := Lib.hid hbi
          obtain ⟨U, hU⟩ : ∃ U, (ws.take k).any (hasB · j) = U := ⟨_, rfl⟩
          rw [hU] at HSN ⊢
          obtain ⟨V, hV⟩ : ∃ V, hasB s j = V := ⟨_, rfl⟩
          have HCN := Lib.hid (fun (W : World) => contains_any s j W)
          rw [hV] at HSN HCN
          clear hs hbi hU hV
          rcases U with _ | _ <;> rcases V with _ | _
          all_goals
            go_wp2_with (go_at_call 59; refine (HCN.out _).mono ?_; rintro e w' ⟨rfl, hww⟩; obtain rfl := hww.symm)
            go_roundw
            case rel => exact ⟨k + 1, by omega, by go_num, by rw [HSN.out]; simp, HBI.out⟩
            case measure => simp [intOf]; omega
        · obtain rfl : k = n' := by omega
          have HEN := Lib.hid (show (ws.take k).any (hasB · j) = usedB ws j from any_end (by omega))
          rw [HEN.out]
          have HBI := Lib.hid hbi
          have hbz := hbi.size
          have hrv := hv1.below hbi
          have HRV := Lib.hid hrv
          have hls := ltr_size j
          clear hbi hrv
          rcases hu : usedB ws j with _ | _
          · have HN := Lib.hid (mlTo_no (xs := xs) (.inl hu))
            clear hu
            go_wp2
            go_roundw
            case rel => exact ⟨j + 1, by omega, by go_num, by rw [HN.out], HBI.out⟩
            case measure => simp [intOf]; omega
          · obtain ⟨F, hF⟩ : ∃ F, findI (codeB (ltr j)) xs = F := ⟨_, rfl⟩
            have HFD := Lib.hid (sortAt_any A n c _ xs (ltr j) _ HRV.out hbz h3)
            rw [hF] at HFD
            by_cases hneg : F < 0
            · have HN := Lib.hid (mlTo_yes hu (by rw [hF]; exact hneg))
              clear hu hF
              go_wp2_with (go_at_call 49; refine HFD.out.mono ?_; rintro e w' ⟨rfl, hb⟩)
              go_roundw
              case rel => exact ⟨j + 1, by omega, by go_num, by rw [HN.out], bl_trans HBI.out hb⟩
              case measure => simp [intOf]; omega
            · have HN := Lib.hid (mlTo_no (ws := ws) (.inr (by rw [hF]; exact hneg)))
              clear hu hF
              go_wp2_with (go_at_call 49; refine HFD.out.mono ?_; rintro e w' ⟨rfl, hb⟩)
              go_roundw
              case rel => exact ⟨j + 1, by omega, by go_num, by rw [HN.out], bl_trans HBI.out hb⟩
              case measure => simp [intOf]; omega
    · obtain rfl : j = 26 := by omega
      go_wp2
      go_ret2
      exact pair_s (mlV_yes HML.out).symm HML.out.symm (bl_trans HV1.out hb)
set_option maxHeartbeats 4000000 in
theorem lawMissingLetters (A : Option Addr) (n c : Nat) (xs : List Srt) (C : Option Addr) (k f : Nat) (ws : List ByteArray) (w : World) (hr : Rd cSrt 2 w w.heap.size A n xs) (hn : n ≤ maxLen) (hok : ∀ x ∈ xs, okSrt x) (hrs : Rd cS 1 w w.heap.size C k ws) (hkk : k ≤ maxLen) (hoks : ∀ x ∈ ws, x.size ≤ maxLen) : Calls Try.prog 8 #[.slice A n c, .slice C k f] w fun e w' => e = .returned (.bool (true)) ∧ Below w.heap.size w w' := by
  have hn' := hn
  unfold maxLen at hn'
  have HN := Lib.hid hn
  have HKK := Lib.hid hkk
  have HOK := Lib.hid hok
  have HOS := Lib.hid hoks
  have HS := Lib.hid (szSortS_any A n c _ xs 1048576 w hr (Nat.le_refl _) hn hok (by omega) (by omega))
  have HSS := Lib.hid (fun (l : Int) (W : World) (h : Below w.heap.size w W) h0 h1 => szStringS_any C k f _ ws l W (hrs.below h) hkk hoks h0 h1)
  clear hn hok hkk hoks
  go_enter Try.func8, Try.ntmps8
  go_wp2_with fail
  refine HS.out.mono ?_
  rintro e w0 ⟨r, rfl, hsz, hb0⟩
  have HSZ := Lib.hid hsz
  have HB0 := Lib.hid hb0
  clear hsz hb0
  by_cases hneg : r < 0
  · go_wp2_with fail
    go_ret
    exact ⟨rfl, HB0.out⟩
  have hn2 : n ≤ 1048576 := by
    rcases HSZ.out with h | h <;> omega
  have hr1 : r ≤ 1048576 := by
    rcases HSZ.out with h | h <;> omega
  go_wp2_with fail
  refine (HSS.out r _ HB0.out (by omega) hr1).mono ?_
  rintro e w00 ⟨r2, rfl, hsz2, rfl⟩
  have HSZ2 := Lib.hid hsz2
  clear hsz2
  by_cases hneg2 : r2 < 0
  · go_wp2_with fail
    go_ret
    exact ⟨rfl, HB0.out⟩
  have hk2 : k ≤ 1048576 := by
    rcases HSZ2.out with h | h <;> omega
  have HT := Lib.hid (fun (W : World) (h : Below w.heap.size w W) => toSrtS_cap A n c _ xs W (hr.below h) h.size hn2)
  have HG := Lib.hid (fun (W : World) (h : Below w.heap.size w W) => toStringS_cap C k f _ ws W (hrs.below h) h.size hk2)
  go_wp2_with fail
  refine (HT.out _ HB0.out).mono ?_
  rintro e w1 ⟨A1, rfl, h1, hb⟩
  have HB1 := Lib.hid (bl_trans HB0.out hb)
  clear hb
  go_wp2_with fail
  refine (HG.out _ HB1.out).mono ?_
  rintro e w2 ⟨A2, rfl, h2, hb⟩
  have HB2 := Lib.hid (bl_trans HB1.out hb)
  have HO2 := Lib.hid (show SW w2 A1 A2 n k xs ws from ⟨(h1.below hb).rd, h2.rd, hn2, hk2, HOK.out, HOS.out⟩)
  clear hb h1 h2
  go_wp2_with fail
  refine (specML_any _ _ _ _ _ _ xs ws _ HO2.out).mono ?_
  rintro e w3 ⟨rfl, hb⟩
  have HB3 := Lib.hid (bl_trans HB2.out hb)
  clear hb
  go_wp2_with fail
  refine (HT.out _ HB3.out).mono ?_
  rintro e w4 ⟨A4, rfl, h4, hb⟩
  have HB4 := Lib.hid (bl_trans HB3.out hb)
  clear hb
  go_wp2_with fail
  refine (HG.out _ HB4.out).mono ?_
  rintro e w5 ⟨A5, rfl, h5, hb⟩
  have HB5 := Lib.hid (bl_trans HB4.out hb)
  have HO5 := Lib.hid (show SW w5 A4 A5 n k xs ws from ⟨(h4.below hb).rd, h5.rd, hn2, hk2, HOK.out, HOS.out⟩)
  have H4 := Lib.hid (h4.below hb)
  have H5 := Lib.hid h5
  clear hb h4 h5
  go_wp2_with fail
  refine (implML_any _ _ _ _ _ _ xs ws _ HO5.out).mono ?_
  rintro e w6 ⟨rfl, hb⟩
  have HB6 := Lib.hid (bl_trans HB5.out hb)
  have H46 := Lib.hid (H4.out.below hb)
  have H56 := Lib.hid (H5.out.below hb)
  clear hb
  go_wp2_with fail
  refine (HT.out _ HB6.out).mono ?_
  rintro e w7 ⟨A7, rfl, h7, hb⟩
  have HB7 := Lib.hid (bl_trans HB6.out hb)
  have H47 := Lib.hid (H46.out.below hb)
  have H57 := Lib.hid (H56.out.below hb)
  clear hb
  go_wp2_with fail
  refine (eqSrtS_same _ _ _ _ _ _ _ xs _ H47.out.rd h7.rd (Nat.le_refl _) (Nat.le_refl _) HN.out).mono ?_
  rintro e w8 ⟨rfl, hb⟩
  have HB8 := Lib.hid (bl_trans HB7.out hb)
  have H58 := Lib.hid (H57.out.below hb)
  clear hb h7
  go_wp2_with fail
  refine (HG.out _ HB8.out).mono ?_
  rintro e w9 ⟨A9, rfl, h9, hb⟩
  have HB9 := Lib.hid (bl_trans HB8.out hb)
  have H59 := Lib.hid (H58.out.below hb)
  clear hb
  go_wp2_with fail
  refine (eqStringS_same _ _ _ _ _ _ _ ws _ H59.out.rd h9.rd HKK.out).mono ?_
  rintro e w10 ⟨rfl, mm, rfl⟩
  go_wp2
  go_ret
  exact ⟨rfl, bl_drewN HB9.out mm⟩
end Go.Proofs.Ytfehdpaoboiodaa
