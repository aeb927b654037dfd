/-
  GameAlone in plain Lean: what a standing tells of the sums alone.
-/
import Derived.Test.YtenofigclkbbiaaDoorHf
set_option linter.unusedVariables false
set_option linter.unusedSimpArgs false
namespace Go.Proofs.YtenofigclkbbiaaDoor
namespace Game
/-- The end, the winner and the extra end hang on the sums alone. -/
structure Alone (m : Mt) (s : St) (k : Nat) : Prop where
  over : s.over = decide (m.ends ≤ k ∧ s.p0 ≠ s.p1)
  winner : s.winner = if s.over = true then (if s.p1 < s.p0 then 0 else 1) else -1
  extra : s.extra = (!s.over && decide (m.ends ≤ k))
  low : decide (s.hammer < 0) = s.over
theorem Alone.begun {m : Mt} {first : Int} (h : 1 ≤ m.ends) (hf : first = 0 ∨ first = 1) : Alone m (St.begun first) 0 := by
  have h0 : ¬ m.ends ≤ 0 := by omega
  have h1 : ¬ first < 0 := by omega
  constructor <;> simp [St.begun, h0, h1]
theorem behind_sums {m : Mt} {s : St} {x : Ln} : (behind m s x).p0 = (if x.team = 0 then s.p0 + x.points else s.p0) ∧ (behind m s x).p1 = (if x.team = 1 then s.p1 + x.points else s.p1) := by
  simp only [behind]
  split
  · exact ⟨rfl, rfl⟩
  · split <;> exact ⟨rfl, rfl⟩
theorem Alone.step {m : Mt} {s : St} {x : Ln} {k : Nat} (h : Alone m s k) (hi : Inv s k) (hf : fits m s x = true) : Alone m (behind m s x) (k + 1) := by
  obtain ⟨f1, f2, f3, f4, f5⟩ := fits_parts hf
  have hh := hi.ham f1
  have he := hi.ends
  have hw := h.winner
  rw [f1] at hw
  simp at hw
  have hp : (played m s x).hammer = 0 ∨ (played m s x).hammer = 1 := by simp only [played]; split <;> (try split) <;> omega
  have hx : (played m s x).extra = decide (m.ends ≤ ((k + 1 : Nat) : Int)) := by
    simp only [played, he]
    congr 1
  have ho : (played m s x).over = false := f1
  have hw' : (played m s x).winner = -1 := hw
  have hb : behind m s x = if (played m s x).extra = true ∧ (played m s x).p1 < (played m s x).p0 then (played m s x).ended 0 else if (played m s x).extra = true ∧ (played m s x).p0 < (played m s x).p1 then (played m s x).ended 1 else played m s x := rfl
  rw [hb]
  clear hb
  generalize played m s x = t at *
  have hn : ¬ t.hammer < 0 := by omega
  by_cases h1 : m.ends ≤ ((k + 1 : Nat) : Int)
  · have hx' : t.extra = true := by rw [hx]; exact decide_eq_true h1
    by_cases h2 : t.p1 < t.p0
    · have h3 : t.p0 ≠ t.p1 := by omega
      rw [if_pos ⟨hx', h2⟩]
      exact ⟨by simp only [St.ended]; exact (decide_eq_true ⟨h1, h3⟩).symm, by simp [St.ended, h2], by simp [St.ended], by simp [St.ended]⟩
    · rw [if_neg (fun h => h2 h.2)]
      by_cases h4 : t.p0 < t.p1
      · have h3 : t.p0 ≠ t.p1 := by omega
        rw [if_pos ⟨hx', h4⟩]
        exact ⟨by simp only [St.ended]; exact (decide_eq_true ⟨h1, h3⟩).symm, by simp [St.ended, h2], by simp [St.ended], by simp [St.ended]⟩
      · have h3 : t.p0 = t.p1 := by omega
        rw [if_neg (fun h => h4 h.2)]
        exact ⟨by rw [ho]; exact (decide_eq_false (fun h => h.2 h3)).symm, by simp [ho, hw'], by rw [hx', ho]; simp only [Bool.not_false, Bool.true_and]; exact (decide_eq_true h1).symm, by rw [ho]; exact decide_eq_false hn⟩
  · have hx' : t.extra = false := by rw [hx]; exact decide_eq_false h1
    rw [if_neg (fun h => by rw [hx'] at h; exact absurd h.1 (by simp)), if_neg (fun h => by rw [hx'] at h; exact absurd h.1 (by simp))]
    exact ⟨by rw [ho]; exact (decide_eq_false (fun h => h1 h.1)).symm, by simp [ho, hw'], by rw [hx', ho]; simp only [Bool.not_false, Bool.true_and]; exact (decide_eq_false h1).symm, by rw [ho]; exact decide_eq_false hn⟩
/-- All lines of a told card. -/
theorem Told.alone {m : Mt} {first : Int} {card : List Ln} (h : Told m first card) (i : Nat) (hi : i ≤ card.length) : Alone m (stAt m first card i) i := by
  induction i with
  | zero => rw [h.start]; exact Alone.begun h.ends.1 h.first
  | succ i ih =>
    have hlt : i < card.length := by omega
    have hl := h.line i _ (List.getElem?_eq_getElem hlt)
    rw [hl.2]
    exact (ih (by omega)).step (h.inv i (by omega)) hl.1
end Game
end Go.Proofs.YtenofigclkbbiaaDoor
