/-
  Numbers read and texts split, plain: no program in sight.
-/
import Derived.Lib.FieldsP
import Derived.Lib.ItoaNum
import Derived.Lib.Join
import Derived.Lib.AtoiTie
import Derived.Laws.RangeString
namespace Go.Proofs.YtgfobchpkjpiiaaDoor
open Go.Lib
set_option linter.unusedVariables false

/-! ### digits -/
theorem digitVal_some {d : UInt8} {x : Nat} (h : digitVal d = some x) : x < 10 ∧ d = UInt8.ofNat (48 + x) := by
  unfold digitVal at h
  split at h
  · rename_i hd
    cases h
    refine ⟨by omega, ?_⟩
    apply UInt8.toNat_inj.1
    have : 48 + (d.toNat - 48) = d.toNat := by omega
    rw [this]
    simp
  · cases h
theorem digitVal_of {x : Nat} (h : x < 10) : digitVal (UInt8.ofNat (48 + x)) = some x := by
  have e : (UInt8.ofNat (48 + x)).toNat = 48 + x := by simp; omega
  unfold digitVal
  rw [e, if_pos (by omega)]
  congr 1
  omega
theorem decFrom_app (d : UInt8) : ∀ (r : List UInt8) (acc : Nat), decFrom acc (r ++ [d]) = (decFrom acc r).bind fun v => (digitVal d).map fun x => v * 10 + x
  | [], acc => by
    show decFrom acc [d] = _
    simp only [decFrom]
    cases digitVal d <;> rfl
  | b :: r, acc => by
    rw [List.cons_append, decFrom, decFrom]
    rcases digitVal b with _ | x
    · rfl
    · exact decFrom_app d r (acc * 10 + x)
theorem snoc_of {α : Type} : ∀ (l : List α), l ≠ [] → ∃ r d, l = r ++ [d] := fun l h => ⟨l.dropLast, l.getLast h, (List.dropLast_concat_getLast h).symm⟩
theorem dec_small {x : Nat} (h : x < 10) : decDigits x = [UInt8.ofNat (48 + x)] := by rw [decDigits, dif_pos h]
theorem dec_big {x : Nat} (h : ¬ x < 10) : decDigits x = decDigits (x / 10) ++ [UInt8.ofNat (48 + x % 10)] := by rw [decDigits, dif_neg h]
/-- a row of digits whose first is not 0 spells its number -/
theorem dec_canon : ∀ (m : Nat) (l : List UInt8) (v : Nat), l.length = m → l ≠ [] → l[0]? ≠ some 48 → decFrom 0 l = some v → decDigits v = l ∧ 1 ≤ v
  | 0, l, v, hl, h0, _, _ => absurd (List.eq_nil_of_length_eq_zero hl) h0
  | m + 1, l, v, hl, h0, h1, hv => by
    obtain ⟨r, d, rfl⟩ := snoc_of l h0
    rw [decFrom_app] at hv
    rcases hr : decFrom 0 r with _ | u
    · rw [hr] at hv; cases hv
    · rw [hr] at hv
      rcases hd : digitVal d with _ | x
      · rw [hd] at hv; cases hv
      · rw [hd] at hv
        obtain ⟨hx, hdx⟩ := digitVal_some hd
        simp only [Option.bind, Option.map, Option.some.injEq] at hv
        by_cases hre : r = []
        · subst hre
          have : u = 0 := by simpa [decFrom] using hr.symm
          subst this
          have hv2 : v = x := by omega
          subst hv2
          refine ⟨by rw [dec_small hx, ← hdx]; rfl, ?_⟩
          rcases Nat.eq_zero_or_pos v with h | h
          · subst h
            exfalso
            apply h1
            rw [hdx]
            rfl
          · exact h
        · have hh : r[0]? ≠ some 48 := by
            intro e
            apply h1
            rw [List.getElem?_append_left (List.length_pos_iff.2 hre)]
            exact e
          have hlm : r.length = m := by simpa using hl
          obtain ⟨e1, e2⟩ := dec_canon m r u hlm hre hh hr
          refine ⟨?_, by omega⟩
          rw [dec_big (by omega)]
          have q1 : v / 10 = u := by omega
          have q2 : v % 10 = x := by omega
          rw [q1, q2, e1, ← hdx]
theorem dec_ne (n : Nat) : decDigits n ≠ [] := by
  rw [decDigits]; split <;> simp
theorem dec_from : ∀ (k n : Nat), n < 10 ^ (k + 1) → decFrom 0 (decDigits n) = some n
  | 0, n, h => by
    have h : n < 10 := by simpa using h
    rw [dec_small h, decFrom, digitVal_of h]
    show some (0 * 10 + n) = some n
    congr 1; omega
  | k + 1, n, h => by
    by_cases h2 : n < 10
    · exact dec_from 0 n (by simpa using h2)
    · have h3 : n / 10 < 10 ^ (k + 1) := by rw [Nat.div_lt_iff_lt_mul (by decide), ← Nat.pow_succ]; exact h
      rw [dec_big h2, decFrom_app, dec_from k (n / 10) h3, digitVal_of (by omega)]
      show some (n / 10 * 10 + n % 10) = some n
      congr 1; omega
theorem pow_gt (n : Nat) : n < 10 ^ (n + 1) := by
  have h : n < 2 ^ n := Nat.lt_two_pow_self
  have h2 : 2 ^ n ≤ 10 ^ n := Nat.pow_le_pow_left (by decide) n
  have h3 : 10 ^ n ≤ 10 ^ (n + 1) := Nat.pow_le_pow_right (by decide) (by omega)
  omega
theorem dec_nat (n : Nat) : decNat (decDigits n) = some n := by
  unfold decNat
  rw [if_neg (by simpa using dec_ne n)]
  exact dec_from n n (pow_gt n)
theorem dec_head : ∀ (k n : Nat), n < 10 ^ (k + 1) → (decDigits n)[0]? = some 48 → n = 0
  | 0, n, h, e => by
    have h : n < 10 := by simpa using h
    rw [dec_small h] at e
    have e : UInt8.ofNat (48 + n) = 48 := by simpa using e
    have := congrArg UInt8.toNat e
    simp at this
    omega
  | k + 1, n, h, e => by
    by_cases h2 : n < 10
    · exact dec_head 0 n (by simpa using h2) e
    · have h3 : n / 10 < 10 ^ (k + 1) := by rw [Nat.div_lt_iff_lt_mul (by decide), ← Nat.pow_succ]; exact h
      rw [dec_big h2, List.getElem?_append_left (List.length_pos_iff.2 (dec_ne _))] at e
      have := dec_head k (n / 10) h3 e
      omega
theorem dec_lead (n : Nat) : ¬ ((decDigits n)[0]? = some 48 ∧ 1 < (decDigits n).length) := by
  rintro ⟨h1, h2⟩
  have := dec_head n n (pow_gt n) h1
  subst this
  rw [dec_small (by decide)] at h2
  simp at h2
/-- the number that a canonical text of at most m digits spells, or -1 -/
def rdV (m : Nat) (l : List UInt8) : Int := if (1 ≤ l.length ∧ l.length ≤ m) ∧ ¬ (l[0]? = some 48 ∧ 1 < l.length) then (match decNat l with | some v => (v : Int) | none => -1) else -1
theorem rdV_of {m n : Nat} (h : (decDigits n).length ≤ m) : rdV m (decDigits n) = n := by
  have h1 : 1 ≤ (decDigits n).length := List.length_pos_iff.2 (dec_ne n)
  unfold rdV
  rw [if_pos ⟨⟨h1, h⟩, dec_lead n⟩, dec_nat]
theorem rdV_inv {m : Nat} {l : List UInt8} {v : Nat} (h : rdV m l = v) : decDigits v = l := by
  unfold rdV at h
  split at h
  · rename_i hc
    obtain ⟨⟨h1, h2⟩, h3⟩ := hc
    rcases hd : decNat l with _ | u
    · rw [hd] at h; simp at h
    · rw [hd] at h
      have hu : u = v := by dsimp only at h; omega
      subst hu
      have hl : l ≠ [] := List.length_pos_iff.1 h1
      have hf : decFrom 0 l = some u := by
        unfold decNat at hd
        split at hd
        · cases hd
        · exact hd
      by_cases h0 : l[0]? = some 48
      · have hl1 : l.length = 1 := by
          by_cases h' : 1 < l.length
          · exact absurd ⟨h0, h'⟩ h3
          · omega
        obtain ⟨x, rfl⟩ := List.length_eq_one_iff.1 hl1
        have hx : x = 48 := by simpa using h0
        subst hx
        have : u = 0 := by
          have e : digitVal 48 = some 0 := by decide
          rw [decFrom, e] at hf
          simpa [decFrom] using hf.symm
        subst this
        rw [dec_small (by decide)]; rfl
      · exact (dec_canon l.length l u rfl hl h0 hf).1
  · omega
theorem rdV_ge (m : Nat) (l : List UInt8) : -1 ≤ rdV m l := by
  unfold rdV
  split
  · split <;> omega
  · omega
theorem digit_mem : ∀ (k n : Nat), n < 10 ^ (k + 1) → ∀ x ∈ decDigits n, 48 ≤ x.toNat ∧ x.toNat ≤ 57
  | 0, n, h, x, hx => by
    have h : n < 10 := by simpa using h
    rw [dec_small h, List.mem_singleton] at hx
    subst hx
    simp; omega
  | k + 1, n, h, x, hx => by
    by_cases h2 : n < 10
    · exact digit_mem 0 n (by simpa using h2) x hx
    · have h3 : n / 10 < 10 ^ (k + 1) := by rw [Nat.div_lt_iff_lt_mul (by decide), ← Nat.pow_succ]; exact h
      rw [dec_big h2, List.mem_append, List.mem_singleton] at hx
      rcases hx with hx | hx
      · exact digit_mem k (n / 10) h3 x hx
      · subst hx; simp; omega
theorem dec_mem (n : Nat) : ∀ x ∈ decDigits n, 48 ≤ x.toNat ∧ x.toNat ≤ 57 := digit_mem n n (pow_gt n)
/-! ### splitting at a byte -/
def spl (b : UInt8) (cur : List UInt8) : List UInt8 → List (List UInt8)
  | [] => [cur]
  | x :: r => if x = b then cur :: spl b [] r else spl b (cur ++ [x]) r
theorem spl_ne (b : UInt8) : ∀ (l cur : List UInt8), spl b cur l ≠ []
  | [], cur => by simp [spl]
  | x :: r, cur => by
    rw [spl]; split
    · simp
    · exact spl_ne b r _
theorem spl_join (b : UInt8) : ∀ (l cur : List UInt8), join (spl b cur l) [b] = cur ++ l
  | [], cur => by rw [spl, join_one, List.append_nil]
  | x :: r, cur => by
    rw [spl]
    split
    · rename_i h
      subst h
      have ih := spl_join x r []
      rcases hs : spl x [] r with _ | ⟨y, t⟩
      · exact absurd hs (spl_ne x r [])
      · rw [hs] at ih
        rw [join_cons] at ih ⊢
        simp only [joinTail, List.map_cons, List.flatten_cons, List.nil_append] at ih ⊢
        rw [List.append_assoc, ih]
        simp
    · rw [spl_join b r (cur ++ [x])]; simp
theorem spl_skip (b : UInt8) : ∀ (w : List UInt8) (cur r : List UInt8), (∀ x ∈ w, x ≠ b) → spl b cur (w ++ r) = spl b (cur ++ w) r
  | [], cur, r, _ => by simp
  | x :: w, cur, r, h => by
    rw [List.cons_append, spl, if_neg (h x (List.mem_cons_self ..)), spl_skip b w (cur ++ [x]) r (fun y hy => h y (List.mem_cons_of_mem _ hy))]
    simp
theorem spl_tail (b : UInt8) : ∀ (W : List (List UInt8)) (cur : List UInt8), (∀ w ∈ W, ∀ x ∈ w, x ≠ b) → spl b cur (joinTail [b] W) = cur :: W
  | [], cur, _ => rfl
  | w :: W, cur, h => by
    have e : joinTail [b] (w :: W) = b :: (w ++ joinTail [b] W) := by simp [joinTail]
    rw [e, spl, if_pos rfl, spl_skip b w [] _ (h w (List.mem_cons_self ..)), List.nil_append, spl_tail b W w (fun v hv => h v (List.mem_cons_of_mem _ hv))]
theorem spl_of_join {b : UInt8} {w : List UInt8} {W : List (List UInt8)} (h : ∀ v ∈ w :: W, ∀ x ∈ v, x ≠ b) : spl b [] (join (w :: W) [b]) = w :: W := by
  rw [join_cons, spl_skip b w [] _ (h w (List.mem_cons_self ..)), List.nil_append, spl_tail b W w (fun v hv => h v (List.mem_cons_of_mem _ hv))]
/-! ### the fields of a text of ASCII -/
def grp (p : Nat → Bool) : Option (List UInt8) → List UInt8 → List (List UInt8)
  | none, [] => []
  | some c, [] => [c]
  | none, x :: r => if p x.toNat then grp p none r else grp p (some [x]) r
  | some c, x :: r => if p x.toNat then c :: grp p none r else grp p (some (c ++ [x])) r
theorem cut_bytes (s : ByteArray) (a b : Nat) : (s.extract a b).data.toList = (s.data.toList.drop a).take (b - a) := by
  have h := ByteArray.extract_mk s.data.toList a b
  have e : (ByteArray.mk s.data.toList.toArray) = s := by cases s; simp
  rw [e] at h
  rw [h]
  all_goals simp
def curOf (s : ByteArray) (pos : Nat) : Option Nat → Option (List UInt8)
  | none => none
  | some a => some ((s.data.toList.drop a).take (pos - a))
theorem grp_spans (p : Nat → Bool) (s : ByteArray) (ha : ∀ x ∈ s.data.toList, x.toNat < 128) : ∀ (f pos : Nat) (st : Option Nat) (acc : List (Nat × Nat)), s.size ≤ pos + f → pos ≤ s.size → (∀ a, st = some a → a ≤ pos) →
    ((closeSpans s (spansFromP p s f pos st acc)).map fun x => (s.extract x.1 x.2).data.toList) = (acc.map fun x => (s.extract x.1 x.2).data.toList) ++ grp p (curOf s pos st) (s.data.toList.drop pos) := by
  have hsz : s.data.toList.length = s.size := Array.length_toList
  intro f
  induction f with
  | zero =>
    intro pos st acc h1 h2 h3
    have hp : pos = s.size := by omega
    rw [List.drop_eq_nil_of_le (by omega)]
    rcases st with _ | a
    · simp [spansFromP, closeSpans, curOf, grp]
    · simp [spansFromP, closeSpans, curOf, grp, cut_bytes, hp]
  | succ f ih =>
    intro pos st acc h1 h2 h3
    by_cases hlt : pos < s.size
    · have hx : s.data.toList[pos]? = some (s[pos]'hlt) := by
        rw [List.getElem?_eq_getElem (by omega)]; rfl
      have h128 : (s[pos]'hlt).toNat < 128 := ha _ (List.mem_of_getElem? hx)
      have hd := decode_ascii s pos hlt h128
      have hdrop : s.data.toList.drop pos = (s[pos]'hlt) :: s.data.toList.drop (pos + 1) := by
        rw [List.drop_eq_getElem_cons (by omega)]
        congr 1
      unfold spansFromP
      rw [if_pos hlt, hd, hdrop]
      dsimp only
      by_cases hp : p (s[pos]'hlt).toNat = true
      · rw [if_pos hp]
        rcases st with _ | a
        · rw [ih (pos + 1) none acc (by omega) (by omega) (fun a h => by cases h)]
          simp [curOf, grp, hp]
        · rw [ih (pos + 1) none (acc ++ [(a, pos)]) (by omega) (by omega) (fun a h => by cases h)]
          simp [curOf, grp, hp, cut_bytes]
      · rw [if_neg hp]
        rcases st with _ | a
        · rw [ih (pos + 1) (some pos) acc (by omega) (by omega) (fun a h => by cases h; omega)]
          have e : (s.data.toList.drop pos).take (pos + 1 - pos) = [s[pos]'hlt] := by rw [hdrop]; simp
          simp only [curOf]
          rw [e, grp, if_neg hp]
        · have hap := h3 a rfl
          rw [ih (pos + 1) (some a) acc (by omega) (by omega) (fun b h => by cases h; omega)]
          have e : (s.data.toList.drop a).take (pos + 1 - a) = (s.data.toList.drop a).take (pos - a) ++ [s[pos]'hlt] := by
            rw [show pos + 1 - a = (pos - a) + 1 by omega, List.take_add_one]
            congr 1
            rw [List.getElem?_drop, show a + (pos - a) = pos by omega, hx]
            rfl
          simp only [curOf]
          rw [e, grp, if_neg hp]
    · have hp : pos = s.size := by omega
      unfold spansFromP
      rw [if_neg hlt, List.drop_eq_nil_of_le (by omega)]
      rcases st with _ | a
      · simp [closeSpans, curOf, grp]
      · simp [closeSpans, curOf, grp, cut_bytes, hp]
theorem spans_len (p : Nat → Bool) (s : ByteArray) : ∀ (f pos : Nat) (st : Option Nat) (acc : List (Nat × Nat)), (spansFromP p s f pos st acc).1.length ≤ acc.length + f
  | 0, pos, st, acc => by simp [spansFromP]
  | f + 1, pos, st, acc => by
    unfold spansFromP
    split
    · split
      · rcases st with _ | a
        · have := spans_len p s f (pos + (Utf8.decode s pos).2) none acc
          simp only; omega
        · have := spans_len p s f (pos + (Utf8.decode s pos).2) none (acc ++ [(a, pos)])
          rw [List.length_append, List.length_singleton] at this
          simp only; omega
      · rcases st with _ | a
        · have := spans_len p s f (pos + (Utf8.decode s pos).2) (some pos) acc
          simp only; omega
        · have := spans_len p s f (pos + (Utf8.decode s pos).2) (some a) acc
          simp only; omega
    · simp
theorem fields_len (p : Nat → Bool) (s : ByteArray) : (goFieldsP p s).length ≤ s.size + 1 := by
  unfold goFieldsP spansOfP closeSpans
  rw [List.length_map]
  have := spans_len p s s.size 0 none []
  split
  · rw [List.length_append, List.length_singleton]; simp only [List.length_nil] at this; omega
  · simp only [List.length_nil] at this; omega
/-- a byte that is no digit spoils a number -/
theorem decFrom_bad : ∀ (l : List UInt8) (acc : Nat) (k : Nat) (x : UInt8), l[k]? = some x → digitVal x = none → decFrom acc l = none
  | [], acc, k, x, h, _ => by simp at h
  | b :: r, acc, 0, x, h, hx => by
    have : b = x := by simpa using h
    subst this
    simp only [decFrom, hx]
  | b :: r, acc, k + 1, x, h, hx => by
    simp only [decFrom]
    cases hb : digitVal b with
    | none => rfl
    | some d => exact decFrom_bad r (acc * 10 + d) k x (by simpa using h) hx
theorem rdV_bad {m : Nat} {l : List UInt8} {k : Nat} {x : UInt8} (h : l[k]? = some x) (hx : digitVal x = none) : rdV m l = -1 := by
  unfold rdV
  split
  · have : decNat l = none := by
      unfold decNat
      split
      · rfl
      · exact decFrom_bad l 0 k x h hx
    rw [this]
  · rfl
theorem rdV_out {m : Nat} {l : List UInt8} (h : ¬ ((1 ≤ l.length ∧ l.length ≤ m) ∧ ¬ (l[0]? = some 48 ∧ 1 < l.length))) : rdV m l = -1 := by unfold rdV; rw [if_neg h]
theorem rdV_in {m v : Nat} {l : List UInt8} (h : (1 ≤ l.length ∧ l.length ≤ m) ∧ ¬ (l[0]? = some 48 ∧ 1 < l.length)) (hv : decFrom 0 l = some v) : rdV m l = v := by
  unfold rdV
  rw [if_pos h]
  have : decNat l = some v := by
    unfold decNat
    rw [if_neg (by have := List.length_pos_iff.1 h.1.1; simpa using this)]
    exact hv
  rw [this]
theorem fields_ascii (p : Nat → Bool) (s : ByteArray) (ha : ∀ x ∈ s.data.toList, x.toNat < 128) : (goFieldsP p s).map (·.data.toList) = grp p none s.data.toList := by
  unfold goFieldsP spansOfP
  rw [List.map_map]
  have := grp_spans p s ha s.size 0 none [] (by omega) (by omega) (fun a h => by cases h)
  rw [List.map_nil, List.nil_append, List.drop_zero] at this
  exact this
theorem grp_skip (p : Nat → Bool) : ∀ (w c r : List UInt8), (∀ x ∈ w, p x.toNat = false) → grp p (some c) (w ++ r) = grp p (some (c ++ w)) r
  | [], c, r, _ => by simp
  | x :: w, c, r, h => by
    rw [List.cons_append, grp, if_neg (by rw [h x (List.mem_cons_self ..)]; decide), grp_skip p w (c ++ [x]) r (fun y hy => h y (List.mem_cons_of_mem _ hy))]
    simp
theorem grp_word {p : Nat → Bool} {w r : List UInt8} (hw : w ≠ []) (h : ∀ x ∈ w, p x.toNat = false) : grp p none (w ++ r) = grp p (some w) r := by
  cases w with
  | nil => exact absurd rfl hw
  | cons x t =>
    rw [List.cons_append, grp, if_neg (by rw [h x (List.mem_cons_self ..)]; decide), grp_skip p t [x] r (fun y hy => h y (List.mem_cons_of_mem _ hy))]
    simp
theorem grp_tail {p : Nat → Bool} {b : UInt8} (hb : p b.toNat = true) : ∀ (W : List (List UInt8)) (c : List UInt8), (∀ w ∈ W, w ≠ [] ∧ ∀ x ∈ w, p x.toNat = false) → grp p (some c) (joinTail [b] W) = c :: W
  | [], c, _ => rfl
  | w :: W, c, h => by
    have e : joinTail [b] (w :: W) = b :: (w ++ joinTail [b] W) := by simp [joinTail]
    have hw := h w (List.mem_cons_self ..)
    rw [e, grp, if_pos hb, grp_word hw.1 hw.2, grp_tail hb W w (fun v hv => h v (List.mem_cons_of_mem _ hv))]
theorem grp_join {p : Nat → Bool} {b : UInt8} (hb : p b.toNat = true) {w : List UInt8} {W : List (List UInt8)} (h : ∀ v ∈ w :: W, v ≠ [] ∧ ∀ x ∈ v, p x.toNat = false) : grp p none (join (w :: W) [b]) = w :: W := by
  have hw := h w (List.mem_cons_self ..)
  rw [join_cons, grp_word hw.1 hw.2, grp_tail hb W w (fun v hv => h v (List.mem_cons_of_mem _ hv))]
theorem atoi_dec {n : Nat} (h : (decDigits n).length ≤ 18) : atoiAll (decDigits n) = .ok (n : Int) := by
  rw [atoiAll_short _ h]
  have hn := dec_nat n
  rcases hd : decDigits n with _ | ⟨b, r⟩
  · exact absurd hd (dec_ne n)
  · have hb := dec_mem n b (by rw [hd]; exact List.mem_cons_self ..)
    have h45 : (b == 45) = false := by rw [beq_eq_false_iff_ne]; intro e; subst e; revert hb; decide
    have h43 : (b == 43) = false := by rw [beq_eq_false_iff_ne]; intro e; subst e; revert hb; decide
    rw [hd] at hn
    have e : atoi (b :: r) = (decNat (b :: r)).map fun (m : Nat) => (m : Int) := by
      show (if b == 45 then _ else if b == 43 then _ else _) = _
      rw [if_neg (by rw [h45]; decide), if_neg (by rw [h43]; decide)]
    rw [e, hn]
    rfl
end Go.Proofs.YtgfobchpkjpiiaaDoor
