/-
  Decimal numerals: what spells a number of at most 18 digits in its one form (plain Lean).
-/
import Derived.Lib.ItoaMem
import Derived.Lib.ParseIntBTie
import Derived.Lib.AtoiTie
import Derived.Lib.Atoi
import Derived.Lib.Strings
set_option linter.unusedVariables false
set_option linter.unusedSimpArgs false
namespace Sheet
open Go.Lib

theorem digitVal_of {d : Nat} (h : d < 10) : digitVal (UInt8.ofNat (48 + d)) = some d := by
  have e : (UInt8.ofNat (48 + d)).toNat = 48 + d := by simp; omega
  unfold digitVal
  rw [e, if_pos (by omega)]
  congr 1
  omega
theorem ofNat_of_digit {c : UInt8} {d : Nat} (h : digitVal c = some d) : c = UInt8.ofNat (48 + d) ∧ d < 10 := by
  obtain ⟨h1, h2, rfl⟩ := digitVal_eq h
  refine ⟨?_, by omega⟩
  rw [show 48 + (c.toNat - 48) = c.toNat by omega]
  simp
theorem decFrom_snoc : ∀ (l : List UInt8) (acc : Nat) (c : UInt8), decFrom acc (l ++ [c]) = (decFrom acc l).bind (fun m => (digitVal c).map (fun d => m * 10 + d))
  | [], acc, c => by
    simp only [List.nil_append, decFrom, Option.bind_some]
    cases digitVal c <;> rfl
  | a :: r, acc, c => by
    simp only [List.cons_append, decFrom]
    cases digitVal a with
    | none => rfl
    | some d => exact decFrom_snoc r _ c
theorem decFrom_digits (u : Nat) : decFrom 0 (decDigits u) = some u := by
  induction u using Nat.strongRecOn with
  | _ u ih =>
    by_cases h : u < 10
    · rw [decDigits, dif_pos h]
      simp only [decFrom, digitVal_of h]
      simp
    · rw [decDigits, dif_neg h, decFrom_snoc, ih (u / 10) (by omega), digitVal_of (Nat.mod_lt _ (by decide))]
      simp only [Option.bind_some, Option.map_some]
      congr 1
      omega
theorem digits_ne (u : Nat) : decDigits u ≠ [] := by
  rw [decDigits]
  split <;> simp
/-- No zero ahead. -/
def lean (l : List UInt8) : Prop := l.head? = some 48 → l = [48]
theorem lean_digits (u : Nat) : lean (decDigits u) := by
  induction u using Nat.strongRecOn with
  | _ u ih =>
    by_cases h : u < 10
    · rw [decDigits, dif_pos h]
      intro e
      simp at e
      simp [e]
    · rw [decDigits, dif_neg h]
      intro e
      rw [List.head?_append] at e
      have hne := digits_ne (u / 10)
      have h2 := ih (u / 10) (by omega)
      cases hd : decDigits (u / 10) with
      | nil => exact absurd hd hne
      | cons a r =>
        rw [hd] at e h2
        simp only [List.head?_cons, Option.or_some, Option.some.injEq] at e
        subst e
        have := h2 rfl
        rw [← hd] at this
        have h3 := decFrom_digits (u / 10)
        rw [this] at h3
        have h4 : decFrom 0 [48] = some 0 := rfl
        rw [h4] at h3
        have := Option.some.inj h3
        omega
theorem lean_pos : ∀ (l : List UInt8) (m : Nat), lean l → l ≠ [] → l ≠ [48] → decFrom 0 l = some m → 0 < m
  | [], _, _, h, _, _ => absurd rfl h
  | a :: r, m, hl, _, hn, h => by
    simp only [decFrom] at h
    cases hd : digitVal a with
    | none => rw [hd] at h; cases h
    | some d =>
      rw [hd] at h
      obtain ⟨ea, hd10⟩ := ofNat_of_digit hd
      have hd0 : d ≠ 0 := fun e => by
        subst e
        simp at ea
        subst ea
        exact hn (hl rfl)
      have hge : ∀ (l : List UInt8) (acc n : Nat), decFrom acc l = some n → acc ≤ n := by
        intro l
        induction l with
        | nil => intro acc n h; simp only [decFrom] at h; have := Option.some.inj h; omega
        | cons b t ih =>
          intro acc n h
          simp only [decFrom] at h
          cases hb : digitVal b with
          | none => rw [hb] at h; cases h
          | some e => rw [hb] at h; have := ih _ _ h; omega
      have := hge _ _ _ h
      omega
theorem digits_of : ∀ (k : Nat) (l : List UInt8) (n : Nat), l.length = k → l ≠ [] → lean l → decFrom 0 l = some n → l = decDigits n
  | 0, l, n, hk, hne, _, _ => absurd (List.length_eq_zero_iff.1 hk) hne
  | k + 1, l, n, hk, hne, hl, h => by
    obtain ⟨l', c, rfl⟩ : ∃ l' c, l = l' ++ [c] := ⟨l.dropLast, l.getLast hne, (List.dropLast_concat_getLast hne).symm⟩
    rw [decFrom_snoc] at h
    cases hm : decFrom 0 l' with
    | none => rw [hm] at h; cases h
    | some m =>
      rw [hm] at h
      simp only [Option.bind_some] at h
      cases hd : digitVal c with
      | none => rw [hd] at h; cases h
      | some d =>
        rw [hd] at h
        have hn : m * 10 + d = n := Option.some.inj h
        obtain ⟨ec, hd10⟩ := ofNat_of_digit hd
        by_cases he : l' = []
        · subst he
          have hm0 : 0 = m := Option.some.inj hm
          rw [decDigits, dif_pos (by omega), List.nil_append, ec]
          congr 3
          omega
        · have hl' : lean l' := fun e => by
            have := hl (by rw [List.head?_append, e]; rfl)
            have hlen := congrArg List.length this
            have : 0 < l'.length := List.length_pos_iff.2 he
            simp at hlen
            exact absurd hlen (by intro h; exact he (by cases l' <;> simp_all))
          have hne48 : l' ≠ [48] := fun e => by
            subst e
            have := hl (by simp)
            simp at this
          have hpos := lean_pos l' m hl' he hne48 hm
          have ih := digits_of k l' m (by simp at hk; exact hk) he hl' hm
          rw [decDigits, dif_neg (by omega), ih, ec]
          congr 2
          · rw [show n / 10 = m by omega]
          · congr 2
            omega
theorem digits_length (u : Nat) : (decDigits u).length ≤ 18 ↔ u < 10 ^ 18 := by
  rw [decDigits_length]
  constructor
  · intro h
    exact Nat.lt_of_lt_of_le (lt_pow_nDigits u) (Nat.pow_le_pow_right (by decide) h)
  · intro h
    refine Classical.byContradiction fun hn => ?_
    have : ∀ (k v : Nat), v < 10 ^ (k + 1) → nDigits v ≤ k + 1 := by
      intro k
      induction k with
      | zero => intro v hv; rw [nDigits_small (by simpa using hv)]; exact Nat.le_refl _
      | succ k ih =>
        intro v hv
        by_cases h10 : v < 10
        · rw [nDigits_small h10]; omega
        · rw [nDigits_big h10]
          have := ih (v / 10) (by rw [Nat.pow_succ] at hv; omega)
          omega
    exact hn (this 17 u h)
theorem parseU (u : Nat) (h : u < 10 ^ 18) : parseUintB 64 (decDigits u) = .ok u := by
  unfold parseUintB
  rw [if_neg (digits_ne u)]
  have e : 2 ^ 64 - 1 = 18446744073709551615 := rfl
  rw [e, parseUintM_64, parseUint10_short _ 0 0 (by decide) (by have := (digits_length u).2 h; omega), decFrom_digits]
  rfl
theorem digits_head (u : Nat) : ∃ c r, decDigits u = c :: r ∧ 48 ≤ c.toNat ∧ c.toNat ≤ 57 := by
  have h := decFrom_digits u
  cases hd : decDigits u with
  | nil => exact absurd hd (digits_ne u)
  | cons c r =>
    rw [hd] at h
    simp only [decFrom] at h
    cases hc : digitVal c with
    | none => rw [hc] at h; cases h
    | some d => obtain ⟨h1, h2, _⟩ := digitVal_eq hc; exact ⟨c, r, rfl, h1, h2⟩
/-- An integer of at most 18 digits is read from its numeral. -/
theorem parse_itoa (v : Int) (h : v.natAbs < 10 ^ 18) : parseIntB 64 (itoa v) = .ok v := by
  rcases (by omega : v < 0 ∨ 0 ≤ v) with h0 | h0
  · obtain ⟨u, rfl⟩ : ∃ u : Nat, v = -(u : Int) := ⟨v.natAbs, by omega⟩
    rw [itoa_neg u (by omega), parseIntB_minus, parseU u (by omega)]
    have e : 2 ^ (64 - 1) = 9223372036854775808 := rfl
    simp only [signedC, e]
    rw [if_neg (by omega)]
  · obtain ⟨u, rfl⟩ : ∃ u : Nat, v = (u : Int) := ⟨v.toNat, by omega⟩
    rw [itoa_nonneg u]
    obtain ⟨c, r, hd, h1, h2⟩ := digits_head u
    have hp := parseU u (by omega)
    rw [hd] at hp ⊢
    rw [parseIntB_plain 64 c r (by omega) (by omega), hp]
    have e : 2 ^ (64 - 1) = 9223372036854775808 := rfl
    simp only [signlessC, e]
    rw [if_neg (by omega)]
theorem trim_itoa (v : Int) : trimPrefix (itoa v) [45] = decDigits v.natAbs := by
  rcases (by omega : v < 0 ∨ 0 ≤ v) with h0 | h0
  · obtain ⟨u, rfl⟩ : ∃ u : Nat, v = -(u : Int) := ⟨v.natAbs, by omega⟩
    rw [itoa_neg u (by omega)]
    simp [trimPrefix, hasPrefix]
  · obtain ⟨u, rfl⟩ : ∃ u : Nat, v = (u : Int) := ⟨v.toNat, by omega⟩
    rw [itoa_nonneg u]
    obtain ⟨c, r, hd, h1, h2⟩ := digits_head u
    have : ¬ (45 : UInt8) = c := fun e => by subst e; exact absurd h1 (by decide)
    rw [Int.natAbs_natCast, hd]
    simp [trimPrefix, hasPrefix, this]
/-- The program's integer. -/
def numOf (l : List UInt8) : Option Int := match parseIntB 64 l with
  | .ok v => if itoa v = l ∧ (trimPrefix l [45]).length ≤ 18 then some v else none
  | _ => none
theorem numOf_iff (l : List UInt8) (v : Int) : numOf l = some v ↔ itoa v = l ∧ v.natAbs < 10 ^ 18 := by
  constructor
  · intro h
    unfold numOf at h
    split at h
    · rename_i v' hv
      split at h
      · rename_i hc
        obtain rfl := Option.some.inj h
        obtain ⟨h1, h2⟩ := hc
        refine ⟨h1, ?_⟩
        rw [← h1, trim_itoa] at h2
        exact (digits_length _).1 h2
      · cases h
    · cases h
  · rintro ⟨rfl, h⟩
    unfold numOf
    rw [parse_itoa v h]
    simp only
    rw [if_pos ⟨trivial, by rw [trim_itoa]; exact (digits_length _).2 h⟩]
/-- The reference's integer. -/
def minusOf (l : List UInt8) : Bool := l.head? == some 45
def bodyOf (l : List UInt8) : List UInt8 := if minusOf l = true then l.tail else l
def refInt (l : List UInt8) : Option Int :=
  if 1 ≤ (bodyOf l).length ∧ (bodyOf l).length ≤ 18 ∧ ¬ ((bodyOf l).head? = some 48 ∧ (1 < (bodyOf l).length ∨ minusOf l = true)) then
    (decFrom 0 (bodyOf l)).map (fun n => if minusOf l = true then -(n : Int) else n)
  else none
theorem refInt_iff (l : List UInt8) (v : Int) : refInt l = some v ↔ itoa v = l ∧ v.natAbs < 10 ^ 18 := by
  constructor
  · intro h
    unfold refInt at h
    split at h
    · rename_i hc
      obtain ⟨h1, h2, h3⟩ := hc
      cases hd : decFrom 0 (bodyOf l) with
      | none => rw [hd] at h; cases h
      | some n =>
        rw [hd] at h
        have hv := Option.some.inj h
        have hne : bodyOf l ≠ [] := fun e => by rw [e] at h1; simp at h1
        have hl : lean (bodyOf l) := fun e => by
          have : ¬ (1 < (bodyOf l).length ∨ minusOf l = true) := fun hor => h3 ⟨e, hor⟩
          have hlen : (bodyOf l).length = 1 := by omega
          obtain ⟨c, hc⟩ := List.length_eq_one_iff.1 hlen
          rw [hc] at e ⊢
          simpa using e
        have hb := digits_of _ _ n rfl hne hl hd
        have hn : n < 10 ^ 18 := by
          rw [hb] at h2
          exact (digits_length n).1 h2
        cases hm : minusOf l with
        | true =>
          rw [hm] at hv
          simp only [if_true] at hv
          have hpos : 1 ≤ n := Nat.pos_of_ne_zero fun e => by
            subst e
            rw [show decDigits 0 = [48] by rw [decDigits, dif_pos (by decide)]; rfl] at hb
            exact h3 ⟨by rw [hb]; rfl, .inr hm⟩
          subst hv
          refine ⟨?_, by omega⟩
          rw [itoa_neg n hpos, ← hb]
          unfold bodyOf
          rw [if_pos hm]
          unfold minusOf at hm
          cases l with
          | nil => simp at hm
          | cons a r => simp at hm; simp [hm]
        | false =>
          rw [hm] at hv
          simp only [Bool.false_eq_true, if_false] at hv
          subst hv
          refine ⟨?_, by omega⟩
          rw [itoa_nonneg, ← hb]
          unfold bodyOf
          rw [if_neg (by rw [hm]; decide)]
    · cases h
  · rintro ⟨rfl, h⟩
    unfold refInt
    rcases (by omega : v < 0 ∨ 0 ≤ v) with h0 | h0
    · obtain ⟨u, rfl⟩ : ∃ u : Nat, v = -(u : Int) := ⟨v.natAbs, by omega⟩
      have e := itoa_neg u (by omega)
      have hm : minusOf (itoa (-(u : Int))) = true := by rw [e]; rfl
      have hb : bodyOf (itoa (-(u : Int))) = decDigits u := by
        unfold bodyOf
        rw [if_pos hm, e]
        rfl
      rw [hb, hm, decFrom_digits]
      have hlen := (digits_length u).2 (by omega)
      obtain ⟨c, r, hd, _, _⟩ := digits_head u
      have hz : ¬ (decDigits u).head? = some 48 := fun hh => by
        have := lean_digits u hh
        have h3 := decFrom_digits u
        rw [this] at h3
        have h4 : decFrom 0 [48] = some 0 := rfl
        rw [h4] at h3
        have := Option.some.inj h3
        omega
      rw [if_pos ⟨by rw [hd]; simp, hlen, fun hh => hz hh.1⟩]
      rfl
    · obtain ⟨u, rfl⟩ : ∃ u : Nat, v = (u : Int) := ⟨v.toNat, by omega⟩
      have e := itoa_nonneg u
      obtain ⟨c, r, hd, hc1, hc2⟩ := digits_head u
      have hm : minusOf (itoa (u : Int)) = false := by
        rw [e, hd]
        unfold minusOf
        have : ¬ c = 45 := fun e => by subst e; exact absurd hc1 (by decide)
        simp [this]
      have hb : bodyOf (itoa (u : Int)) = decDigits u := by
        unfold bodyOf
        rw [if_neg (by rw [hm]; decide), e]
      rw [hb, hm, decFrom_digits]
      have hlen := (digits_length u).2 (by omega)
      rw [if_pos ⟨by rw [hd]; simp, hlen, fun hh => by
        rcases hh.2 with h1 | h1
        · have := lean_digits u hh.1
          rw [this] at h1
          simp at h1
        · cases h1⟩]
      rfl
theorem int_ref (l : List UInt8) : numOf l = refInt l := by
  cases h : refInt l with
  | some v => exact (numOf_iff l v).2 ((refInt_iff l v).1 h)
  | none =>
    cases h' : numOf l with
    | none => rfl
    | some v =>
      have := (refInt_iff l v).2 ((numOf_iff l v).1 h')
      rw [h] at this
      cases this
end Sheet
