/-
  The teams exchanged: plain Lean.
-/
import Derived.Test.YtenofigclkbbiaaDoorR
import Derived.Test.YtenofigclkbbiaaDoorH
set_option linter.unusedVariables false
set_option linter.unusedSimpArgs false
namespace Go.Proofs.YtenofigclkbbiaaDoor
namespace Game
def swLn (x : Ln) : Ln := { x with team := swap x.team }
def swSt (s : St) : St := ⟨s.p1, s.p0, s.ends, swap s.hammer, swap s.winner, s.over, s.extra, s.w1, s.w0⟩
theorem swap01 {x : Int} (h : x = 0 ∨ x = 1) : swap x = 1 - x := by simp [swap, h]
theorem swap_no {x : Int} (h : ¬ (x = 0 ∨ x = 1)) : swap x = x := by simp [swap, h]
theorem swap_m1 : swap (-1) = -1 := by decide
theorem swap_swap (x : Int) : swap (swap x) = x := by
  by_cases h : x = 0 ∨ x = 1
  · rcases h with rfl | rfl <;> decide
  · rw [swap_no h, swap_no h]
theorem swSt_swSt (s : St) : swSt (swSt s) = s := by cases s; simp [swSt, swap_swap]
theorem fits_sw {m : Mt} {s : St} {x : Ln} (hh : s.over = false → s.hammer = 0 ∨ s.hammer = 1) : fits m (swSt s) (swLn x) = fits m s x := by
  rw [Bool.eq_iff_iff]
  obtain ⟨te, po, pw⟩ := x
  obtain ⟨p0, p1, en, ha, wi, ov, ex, w0, w1⟩ := s
  simp only at hh
  cases ov
  · have ht : (swap te = -1 ↔ te = -1) ∧ ((swap te = 0 ∨ swap te = 1) ↔ (te = 0 ∨ te = 1)) := by
      by_cases h : te = 0 ∨ te = 1
      · rw [swap01 h]; constructor <;> omega
      · rw [swap_no h]; simp
    have hg : (St.gone ⟨p1, p0, en, swap ha, swap wi, false, ex, w1, w0⟩) = (St.gone ⟨p0, p1, en, ha, wi, false, ex, w0, w1⟩) := by
      rcases hh rfl with rfl | rfl <;> simp [St.gone, swap]
    simp only [fits, swLn, swSt, decide_eq_true_eq, ht.1, ht.2, hg]
  · simp [fits, swSt]
theorem behind_sw {m : Mt} {s : St} {x : Ln} (hh : s.hammer = 0 ∨ s.hammer = 1) (ht : x.team = -1 ∨ x.team = 0 ∨ x.team = 1) (hw : s.winner = -1) : behind m (swSt s) (swLn x) = swSt (behind m s x) := by
  obtain ⟨te, po, pw⟩ := x
  obtain ⟨p0, p1, en, ha, wi, ov, ex, w0, w1⟩ := s
  simp only at hh ht hw
  subst hw
  have hp : played m (swSt ⟨p0, p1, en, ha, -1, ov, ex, w0, w1⟩) (swLn ⟨te, po, pw⟩) = swSt (played m ⟨p0, p1, en, ha, -1, ov, ex, w0, w1⟩ ⟨te, po, pw⟩) := by
    rcases hh with rfl | rfl <;> rcases ht with rfl | rfl | rfl <;> cases hc : m.change <;> simp [played, swSt, swLn, swap, hc]
  have hpl : (played m ⟨p0, p1, en, ha, -1, ov, ex, w0, w1⟩ ⟨te, po, pw⟩).winner = -1 := rfl
  simp only [behind, hp]
  generalize played m ⟨p0, p1, en, ha, -1, ov, ex, w0, w1⟩ ⟨te, po, pw⟩ = t at *
  obtain ⟨a0, a1, a2, a3, a4, a5, a6, a7, a8⟩ := t
  simp only at hpl
  subst hpl
  cases a6
  · simp [swSt]
  · rcases Int.lt_trichotomy a0 a1 with h | h | h
    · have h1 : ¬ a1 < a0 := by omega
      simp [swSt, St.ended, h, h1, swap]
    · subst h; simp [swSt, swap]
    · have h1 : ¬ a0 < a1 := by omega
      simp [swSt, St.ended, h, h1, swap]
theorem behind_winner {m : Mt} {s : St} {x : Ln} (hw : s.winner = -1) : (behind m s x).over = false → (behind m s x).winner = -1 := by
  simp only [behind]
  split
  · intro h; simp [St.ended] at h
  · split
    · intro h; simp [St.ended] at h
    · intro _; exact hw
theorem walk_sw {m : Mt} {s : St} {k : Nat} {l : List Ln} (hm : m.most ≤ 8) (hi : Inv s k) (hw : s.over = false → s.winner = -1) : walk m (swSt s) k (l.map swLn) = (swSt (walk m s k l).1, (walk m s k l).2) := by
  induction l generalizing s k with
  | nil => simp [walk]
  | cons x r ih =>
    by_cases hf : fits m s x = true
    · obtain ⟨f1, f2, f3, f4, f5⟩ := fits_parts hf
      rw [walk_step hf, List.map_cons, walk_step (by rw [fits_sw hi.ham]; exact hf), behind_sw (hi.ham f1) f2 (hw f1)]
      exact ih (hi.behind hf hm) (behind_winner (hw f1))
    · have hf' := Bool.eq_false_iff.2 hf
      rw [walk_stop hf', List.map_cons, walk_stop (by rw [fits_sw hi.ham]; exact hf')]
/-- The standing of the exchanged game. -/
theorem replay_sw {m : Mt} {first con : Int} {card : List Ln} (h2 : wi first 0 1 = true) (h3 : wi con (-1) 1 = true) (h4 : (replay m first card con).2.2 ≠ 3) :
    (replay m (1 - first) (card.map swLn) (swap con)).2 = (replay m first card con).2 ∧
    (replay m (1 - first) (card.map swLn) (swap con)).1 = if (replay m first card con).2.2 = 0 then swSt (replay m first card con).1 else St.zero := by
  have hf : first = 0 ∨ first = 1 := by simp [wi] at h2; omega
  have hc : con = -1 ∨ con = 0 ∨ con = 1 := by simp [wi] at h3; omega
  have h2' : wi (1 - first) 0 1 = true := by simp [wi]; omega
  have h3' : wi (swap con) (-1) 1 = true := by rcases hc with rfl | rfl | rfl <;> decide
  by_cases h1 : checkMatch m = true
  · by_cases h40 : 40 < card.length
    · simp [replay, h1, h2, h3, h40] at h4
    · have hm8 : m.most ≤ 8 := by simp [checkMatch] at h1; omega
      have hb : St.begun (1 - first) = swSt (St.begun first) := by simp [St.begun, swSt, swap01 hf, swap_m1]
      have hw := walk_sw (l := card) (k := 0) hm8 (Inv.begun h2) (fun _ => rfl)
      rw [← hb] at hw
      rcases hwk : walk m (St.begun first) 0 card with ⟨t, (_ | i)⟩
      · rw [hwk] at hw
        rcases hc with rfl | hc
        · simp [replay, h1, h2, h2', h3, h40, hw, hwk, swap_m1, wi_none]
        · have hne : con ≠ -1 := by omega
          have hsw : swap con = 1 - con := swap01 hc
          have hne' : ¬ (1 - con = -1) := by omega
          have h3'' : wi (1 - con) (-1) 1 = true := by rw [← hsw]; exact h3'
          by_cases ho : t.over = true ∨ t.ends < m.early
          · have ho' : (swSt t).over = true ∨ (swSt t).ends < m.early := ho
            simp [replay, h1, h2, h2', h3, h3'', h40, hw, hwk, hsw, hne, hne', ho, ho']
          · have ho' : ¬ ((swSt t).over = true ∨ (swSt t).ends < m.early) := ho
            have hc2 : swap (1 - con) = 1 - (1 - con) := swap01 (by omega)
            simp [replay, h1, h2, h2', h3, h3'', h40, hw, hwk, hsw, hne, hne', ho, ho', swSt, St.ended, swap_m1, hc2]
      · rw [hwk] at hw
        simp [replay, h1, h2, h2', h3, h3', h40, hw, hwk]
  · simp [replay, h1]
end Game
end Go.Proofs.YtenofigclkbbiaaDoor
