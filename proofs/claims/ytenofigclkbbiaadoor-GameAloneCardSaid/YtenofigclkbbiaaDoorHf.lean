/-
  Who has the hammer, line by line: plain Lean.
-/
import Derived.Test.YtenofigclkbbiaaDoorH
set_option linter.unusedVariables false
set_option linter.unusedSimpArgs false
namespace Go.Proofs.YtenofigclkbbiaaDoor
namespace Game
/-- The state ahead of line i. -/
def stAt (m : Mt) (first : Int) (card : List Ln) (i : Nat) : St := fold m (St.begun first) (card.take i)
theorem fold_snoc {m : Mt} {s : St} {l : List Ln} {i : Nat} {x : Ln} (h : l[i]? = some x) : fold m s (l.take (i + 1)) = behind m (fold m s (l.take i)) x := by
  induction l generalizing s i with
  | nil => simp at h
  | cons y r ih =>
    cases i with
    | zero => simp at h; subst h; simp [fold]
    | succ i =>
      rw [List.take_succ_cons, List.take_succ_cons]
      exact ih (s := behind m s y) (by simpa using h)
theorem walk_at {m : Mt} {s t : St} {k : Nat} {l : List Ln} (h : walk m s k l = (t, none)) {i : Nat} {x : Ln} (hx : l[i]? = some x) : fits m (fold m s (l.take i)) x = true := by
  induction l generalizing s k i with
  | nil => simp at hx
  | cons y r ih =>
    by_cases hf : fits m s y = true
    · rw [walk_step hf] at h
      cases i with
      | zero => simp at hx; subst hx; simpa [fold] using hf
      | succ i => rw [List.take_succ_cons]; exact ih h (by simpa using hx)
    · rw [walk_stop (Bool.eq_false_iff.2 hf)] at h
      cases h
theorem walk_inv_at {m : Mt} {s t : St} {k : Nat} {l : List Ln} (hm : m.most ≤ 8) (hi : Inv s k) (h : walk m s k l = (t, none)) (i : Nat) (hil : i ≤ l.length) : Inv (fold m s (l.take i)) (k + i) := by
  induction i with
  | zero => simpa [fold] using hi
  | succ i ih =>
    have hlt : i < l.length := by omega
    have hx := List.getElem?_eq_getElem hlt
    rw [fold_snoc hx]
    exact (ih (by omega)).behind (walk_at h hx) hm
/-- What holds of a card whose standing is told. -/
structure Told (m : Mt) (first : Int) (card : List Ln) : Prop where
  len : card.length ≤ 40
  line : ∀ i x, card[i]? = some x → fits m (stAt m first card i) x = true ∧ stAt m first card (i + 1) = behind m (stAt m first card i) x
  inv : ∀ i, i ≤ card.length → Inv (stAt m first card i) i
  res : replay m first card (-1) = (stAt m first card card.length, -1, 0)
  ham : ∀ i, i < card.length → (hamsOf m first card)[i]? = some (stAt m first card i).hammer
  last : (stAt m first card card.length).over = false → (hamsOf m first card).length = card.length + 1 ∧ (hamsOf m first card)[card.length]? = some (stAt m first card card.length).hammer
  over : (stAt m first card card.length).over = true → (hamsOf m first card).length = card.length
  start : stAt m first card 0 = St.begun first
  most : m.most ≤ 8
  ends : 1 ≤ m.ends ∧ m.ends ≤ 16
  first : first = 0 ∨ first = 1
theorem told_of {m : Mt} {first : Int} {card : List Ln} (h : (replay m first card (-1)).2.2 = 0) : Told m first card := by
  obtain ⟨h1, h2, h4, hw, hre⟩ := replay_ok h
  have hm8 : m.most ≤ 8 := by simp [checkMatch] at h1; omega
  have hends : 1 ≤ m.ends ∧ m.ends ≤ 16 := by simp [checkMatch] at h1; omega
  have hf : first = 0 ∨ first = 1 := by simp [wi] at h2; omega
  have hall : stAt m first card card.length = fold m (St.begun first) card := by unfold stAt; rw [List.take_length]
  have hhs : hamsOf m first card = (List.range card.length).map (fun j => (fold m (St.begun first) (card.take j)).hammer) ++ (if (fold m (St.begun first) card).over = true then [] else [(fold m (St.begun first) card).hammer]) := by simp [hamsOf, h, hre]
  refine ⟨h4, fun i x hx => ⟨walk_at hw hx, fold_snoc hx⟩, fun i hi => ?_, by rw [hall]; exact hre, fun i hi => ?_, fun ho => ?_, fun ho => ?_, by simp [stAt, fold], hm8, hends, hf⟩
  · have := walk_inv_at hm8 (Inv.begun h2) hw i hi
    simpa [stAt] using this
  · rw [hhs, List.getElem?_append_left (by simp; omega)]
    simp [hi, stAt]
  · rw [hall] at ho
    rw [hhs, ho]
    simp [hall]
  · rw [hall] at ho
    rw [hhs, ho]
    simp
/-- 1 or 0. -/
def b2i (b : Bool) : Int := if b = true then 1 else 0
/-- What the next end's hammer is, where the game goes on. -/
def wanted (m : Mt) (s : St) (x : Ln) : Int := if x.team = -1 then (if m.change = true then 1 - s.hammer else s.hammer) else 1 - x.team
theorem behind_hammer {m : Mt} {s : St} {x : Ln} (h : (behind m s x).over = false) : (behind m s x).hammer = wanted m s x := by
  simp only [behind] at h ⊢
  split
  · rename_i h1; rw [if_pos h1] at h; simp [St.ended] at h
  · rename_i h1
    rw [if_neg h1] at h
    split
    · rename_i h2; rw [if_pos h2] at h; simp [St.ended] at h
    · rfl
theorem behind_powers {m : Mt} {s : St} {x : Ln} : (behind m s x).w0 = (s.w0 || (x.power && decide (s.hammer = 0))) ∧ (behind m s x).w1 = (s.w1 || (x.power && decide (s.hammer = 1))) := by
  simp only [behind]
  split
  · exact ⟨rfl, rfl⟩
  · split
    · exact ⟨rfl, rfl⟩
    · exact ⟨rfl, rfl⟩
end Game
end Go.Proofs.YtenofigclkbbiaaDoor
