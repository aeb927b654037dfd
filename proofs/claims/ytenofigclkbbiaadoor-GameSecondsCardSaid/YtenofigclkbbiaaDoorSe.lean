/-
  What a team has left, call by call: plain Lean.
-/
import Derived.Test.YtenofigclkbbiaaDoorStp
set_option linter.unusedVariables false
set_option linter.unusedSimpArgs false
namespace Go.Proofs.YtenofigclkbbiaaDoor
namespace Game
theorem passed_of {c : Ck} {k t : Int} (hk : k = 0 ∨ k = 1) : (c.passed t).of k = c.left k t := by
  rcases hk with rfl | rfl <;> simp [Ck.of, Ck.passed]
theorem left_now {c : Ck} {n : Nat} {k : Int} (h : c.Inv n) : c.left k c.now = c.of k := by
  have h0 := h.l0
  have h1 := h.l1
  unfold Ck.left Ck.of
  split
  · split <;> omega
  · rfl
theorem of_pos {c : Ck} {n : Nat} {k : Int} (h : c.Inv n) : 0 ≤ c.of k ∧ c.of k ≤ 1073741824 + 100000 * n := by
  have h0 := h.l0
  have h1 := h.l1
  unfold Ck.of
  split <;> omega
theorem wrong_at {c : Ck} {k t : Int} (hk : k = 0 ∨ k = 1) (h1 : c.now ≤ t) (h2 : t ≤ 1073741824) : c.wrong k t = 0 := by
  have a : wi k 0 1 = true := by rcases hk with rfl | rfl <;> rfl
  have b : wi t c.now 1073741824 = true := by simp [wi]; omega
  simp [Ck.wrong, a, b]
theorem step_bad {c : Ck} {x : Pr} (h : (c.step x).2 ≠ 0) : (c.step x).1 = c := by
  unfold Ck.step at h ⊢
  split
  · rename_i h1
    rw [if_pos h1] at h
    unfold Ck.start at h ⊢
    split
    · rfl
    · split
      · rfl
      · split
        · rfl
        · rename_i a b d; rw [if_neg a, if_neg b, if_neg d] at h; exact absurd rfl h
  · rename_i h1
    rw [if_neg h1] at h
    split
    · rename_i h2
      rw [if_pos h2] at h
      unfold Ck.stop at h ⊢
      split
      · rfl
      · split
        · rfl
        · rename_i a b; rw [if_neg a, if_neg b] at h; exact absurd rfl h
    · rename_i h2
      rw [if_neg h2] at h
      split
      · rename_i h3
        rw [if_pos h3] at h
        unfold Ck.out at h ⊢
        split
        · rfl
        · split
          · rfl
          · split
            · rfl
            · rename_i a b d; rw [if_neg a, if_neg b, if_neg d] at h; exact absurd rfl h
      · rename_i h3
        rw [if_neg h3] at h
        split
        · rename_i h4
          rw [if_pos h4] at h
          unfold Ck.extra at h ⊢
          split
          · rfl
          · split
            · rfl
            · rename_i a b; rw [if_neg a, if_neg b] at h; exact absurd rfl h
        · rfl
/-- What a good call leaves. -/
structure Good (c d : Ck) (x : Pr) (t : Int) : Prop where
  time : c.now ≤ t ∧ t ≤ 1073741824
  now : d.now = t
  of : ∀ k, k = 0 ∨ k = 1 → d.of k = c.left k t + (if x.what = 4 then c.ext else 0)
  ext : d.ext = c.ext
  len : d.len = c.len
  til : d.til = if x.what = 3 then t + c.len else c.til
theorem step_good {c : Ck} {x : Pr} (h : (c.step x).2 = 0) (hw : x.what = 1 ∨ x.what = 2 ∨ x.what = 3 ∨ x.what = 4) : Good c (c.step x).1 x (x.time c.now) := by
  unfold Ck.step at h ⊢
  generalize x.time c.now = t at *
  rcases hw with h1 | h1 | h1 | h1
  · simp only [h1, if_true] at h ⊢
    unfold Ck.start at h ⊢
    by_cases a : c.wrong x.team t = 0
    · obtain ⟨_, b1, b2⟩ := Ck.wrong_0 a
      by_cases b : c.team = -1
      · by_cases d : c.of x.team = 0
        · simp [a, b, d] at h
        · simp [a, b, d] at h ⊢
          exact ⟨⟨b1, b2⟩, rfl, fun k hk => by have := passed_of (c := c) (t := t) hk; simpa [h1, Ck.of] using this, rfl, rfl, by simp [h1, Ck.passed]⟩
      · simp [a, b] at h
    · simp [a] at h
  · have n1 : ¬ x.what = 1 := by omega
    simp only [n1, if_false, h1, if_true] at h ⊢
    unfold Ck.stop at h ⊢
    by_cases a : c.wrong 0 t = 0
    · obtain ⟨_, b1, b2⟩ := Ck.wrong_0 a
      by_cases b : c.team = -1
      · simp [a, b] at h
      · simp [a, b] at h ⊢
        exact ⟨⟨b1, b2⟩, rfl, fun k hk => by have := passed_of (c := c) (t := t) hk; simpa [h1, Ck.of] using this, rfl, rfl, by simp [h1, Ck.passed]⟩
    · simp [a] at h
  · have n1 : ¬ x.what = 1 := by omega
    have n2 : ¬ x.what = 2 := by omega
    simp only [n1, n2, if_false, h1, if_true] at h ⊢
    unfold Ck.out at h ⊢
    by_cases a : c.wrong x.team t = 0
    · obtain ⟨_, b1, b2⟩ := Ck.wrong_0 a
      by_cases b : c.team ≠ x.team ∨ t < c.til
      · simp only [a, ne_eq, not_true, if_false, if_pos b] at h
        simp at h
      · by_cases d : c.outsOf x.team = 0
        · simp only [a, ne_eq, not_true, if_false, if_neg b, if_pos d] at h
          simp at h
        · simp only [a, ne_eq, not_true, if_false, if_neg b, if_neg d] at h ⊢
          exact ⟨⟨b1, b2⟩, rfl, fun k hk => by have := passed_of (c := c) (t := t) hk; simpa [h1, Ck.outed, Ck.of] using this, rfl, rfl, by simp [h1, Ck.outed]⟩
    · simp [a] at h
  · have n1 : ¬ x.what = 1 := by omega
    have n2 : ¬ x.what = 2 := by omega
    have n3 : ¬ x.what = 3 := by omega
    simp only [n1, n2, n3, if_false, h1, if_true] at h ⊢
    unfold Ck.extra at h ⊢
    by_cases a : c.wrong 0 t = 0
    · obtain ⟨_, b1, b2⟩ := Ck.wrong_0 a
      by_cases b : c.team = -1
      · simp [a, b] at h ⊢
        refine ⟨⟨b1, b2⟩, rfl, fun k hk => ?_, rfl, rfl, by simp [h1, Ck.more, Ck.passed]⟩
        rw [← passed_of hk]
        rcases hk with rfl | rfl <;> simp [h1, Ck.more, Ck.of]
      · simp [a, b] at h
    · simp [a] at h
end Game
end Go.Proofs.YtenofigclkbbiaaDoor
