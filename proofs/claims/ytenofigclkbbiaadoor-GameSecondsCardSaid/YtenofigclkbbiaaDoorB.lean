/-
  What the reference makes of a valid line.
-/
import Derived.Test.YtenofigclkbbiaaDoorA
set_option linter.unusedVariables false
set_option linter.unusedSimpArgs false
namespace Go.Proofs.YtenofigclkbbiaaDoor
open Go.RowKit
open Game
set_option maxHeartbeats 4000000 in
theorem behind_blank (m : Mt) (s : St) (po : Int) (pw : Bool) (w : World) (hh : pw = true → s.hammer = 0 ∨ s.hammer = 1)
    (h0 : 0 ≤ s.p0 ∧ s.p0 ≤ 1000000) (h1 : 0 ≤ s.p1 ∧ s.p1 ≤ 1000000) (h2 : 0 ≤ po ∧ po ≤ 1000000) (h3 : 0 ≤ s.ends ∧ s.ends ≤ 1000000) (h4 : -1 ≤ s.hammer ∧ s.hammer ≤ 1) :
    Calls Tryd.prog 45 #[mval m, sval s, xval ⟨-1, po, pw⟩] w fun e w' => e = .returned (sval (behind m s ⟨-1, po, pw⟩)) ∧ Below w.heap.size w w' := by
  obtain ⟨me, mm, ma, mc, mp⟩ := m
  obtain ⟨p0, p1, en, ha, wi, ov, ex, w0, w1⟩ := s
  simp only at hh h0 h1 h3 h4
  have fin : ∀ {Wx : World} {t : St}, t = behind ⟨me, mm, ma, mc, mp⟩ ⟨p0, p1, en, ha, wi, ov, ex, w0, w1⟩ ⟨-1, po, pw⟩ → Below w.heap.size w Wx →
      (Ending.returned (sval t) = Ending.returned (sval (behind ⟨me, mm, ma, mc, mp⟩ ⟨p0, p1, en, ha, wi, ov, ex, w0, w1⟩ ⟨-1, po, pw⟩)) ∧ Below w.heap.size w Wx) := fun h hb => ⟨by rw [h], hb⟩
  cases mc <;> cases pw
  all_goals first | (rcases hh rfl with h | h <;> subst h) | clear hh
  all_goals
    go_enter Tryd.func45, Tryd.ntmps45
    go_wp2
    all_goals
      apply bodyPost_ret
      · simp [results, Tryd.results45, go_sem]; rfl
      · rfl
      · refine fin (t := ⟨_, _, _, _, _, _, _, _, _⟩) ?_ (by repeat (first | exact Below.refl _ _ | refine b_alloc ?_ | refine b_drew ?_))
        try simp only [bne_iff_ne, bne_eq_false_iff_eq, ne_eq] at *
        by_cases q : me ≤ en + 1
        all_goals
          simp [behind, played, St.ended, *]
          first | done | omega | ((repeat' (first | split | intro _)) <;> (first | rfl | omega | (exfalso; omega)))
set_option maxHeartbeats 4000000 in
theorem behind_zero (m : Mt) (s : St) (po : Int) (pw : Bool) (w : World) (hh : pw = true → s.hammer = 0 ∨ s.hammer = 1)
    (h0 : 0 ≤ s.p0 ∧ s.p0 ≤ 1000000) (h1 : 0 ≤ s.p1 ∧ s.p1 ≤ 1000000) (h2 : 0 ≤ po ∧ po ≤ 1000000) (h3 : 0 ≤ s.ends ∧ s.ends ≤ 1000000) (h4 : -1 ≤ s.hammer ∧ s.hammer ≤ 1) :
    Calls Tryd.prog 45 #[mval m, sval s, xval ⟨0, po, pw⟩] w fun e w' => e = .returned (sval (behind m s ⟨0, po, pw⟩)) ∧ Below w.heap.size w w' := by
  obtain ⟨me, mm, ma, mc, mp⟩ := m
  obtain ⟨p0, p1, en, ha, wi, ov, ex, w0, w1⟩ := s
  simp only at hh h0 h1 h3 h4
  have fin : ∀ {Wx : World} {t : St}, t = behind ⟨me, mm, ma, mc, mp⟩ ⟨p0, p1, en, ha, wi, ov, ex, w0, w1⟩ ⟨0, po, pw⟩ → Below w.heap.size w Wx →
      (Ending.returned (sval t) = Ending.returned (sval (behind ⟨me, mm, ma, mc, mp⟩ ⟨p0, p1, en, ha, wi, ov, ex, w0, w1⟩ ⟨0, po, pw⟩)) ∧ Below w.heap.size w Wx) := fun h hb => ⟨by rw [h], hb⟩
  cases pw
  all_goals first | (rcases hh rfl with h | h <;> subst h) | clear hh
  all_goals
    go_enter Tryd.func45, Tryd.ntmps45
    go_wp2
    all_goals go_region
    all_goals go_wp2
    all_goals
      apply bodyPost_ret
      · simp [results, Tryd.results45, go_sem]; rfl
      · rfl
      · refine fin (t := ⟨_, _, _, _, _, _, _, _, _⟩) ?_ (by repeat (first | exact Below.refl _ _ | refine b_alloc ?_ | refine b_drew ?_))
        try simp only [bne_iff_ne, bne_eq_false_iff_eq, ne_eq] at *
        by_cases q : me ≤ en + 1
        all_goals
          simp [behind, played, St.ended, *]
          first | done | omega | ((repeat' (first | split | intro _)) <;> (first | rfl | omega | (exfalso; omega)))
set_option maxHeartbeats 4000000 in
theorem behind_one (m : Mt) (s : St) (po : Int) (pw : Bool) (w : World) (hh : pw = true → s.hammer = 0 ∨ s.hammer = 1)
    (h0 : 0 ≤ s.p0 ∧ s.p0 ≤ 1000000) (h1 : 0 ≤ s.p1 ∧ s.p1 ≤ 1000000) (h2 : 0 ≤ po ∧ po ≤ 1000000) (h3 : 0 ≤ s.ends ∧ s.ends ≤ 1000000) (h4 : -1 ≤ s.hammer ∧ s.hammer ≤ 1) :
    Calls Tryd.prog 45 #[mval m, sval s, xval ⟨1, po, pw⟩] w fun e w' => e = .returned (sval (behind m s ⟨1, po, pw⟩)) ∧ Below w.heap.size w w' := by
  obtain ⟨me, mm, ma, mc, mp⟩ := m
  obtain ⟨p0, p1, en, ha, wi, ov, ex, w0, w1⟩ := s
  simp only at hh h0 h1 h3 h4
  have fin : ∀ {Wx : World} {t : St}, t = behind ⟨me, mm, ma, mc, mp⟩ ⟨p0, p1, en, ha, wi, ov, ex, w0, w1⟩ ⟨1, po, pw⟩ → Below w.heap.size w Wx →
      (Ending.returned (sval t) = Ending.returned (sval (behind ⟨me, mm, ma, mc, mp⟩ ⟨p0, p1, en, ha, wi, ov, ex, w0, w1⟩ ⟨1, po, pw⟩)) ∧ Below w.heap.size w Wx) := fun h hb => ⟨by rw [h], hb⟩
  cases pw
  all_goals first | (rcases hh rfl with h | h <;> subst h) | clear hh
  all_goals
    go_enter Tryd.func45, Tryd.ntmps45
    go_wp2
    all_goals go_region
    all_goals go_wp2
    all_goals
      apply bodyPost_ret
      · simp [results, Tryd.results45, go_sem]; rfl
      · rfl
      · refine fin (t := ⟨_, _, _, _, _, _, _, _, _⟩) ?_ (by repeat (first | exact Below.refl _ _ | refine b_alloc ?_ | refine b_drew ?_))
        try simp only [bne_iff_ne, bne_eq_false_iff_eq, ne_eq] at *
        by_cases q : me ≤ en + 1
        all_goals
          simp [behind, played, St.ended, *]
          first | done | omega | ((repeat' (first | split | intro _)) <;> (first | rfl | omega | (exfalso; omega)))
theorem behind_any (m : Mt) (s : St) (x : Ln) (w : World) (hx : x.team = -1 ∨ x.team = 0 ∨ x.team = 1) (hh : x.power = true → s.hammer = 0 ∨ s.hammer = 1)
    (h0 : 0 ≤ s.p0 ∧ s.p0 ≤ 1000000) (h1 : 0 ≤ s.p1 ∧ s.p1 ≤ 1000000) (h2 : 0 ≤ x.points ∧ x.points ≤ 1000000) (h3 : 0 ≤ s.ends ∧ s.ends ≤ 1000000) (h4 : -1 ≤ s.hammer ∧ s.hammer ≤ 1) :
    Calls Tryd.prog 45 #[mval m, sval s, xval x] w fun e w' => e = .returned (sval (behind m s x)) ∧ Below w.heap.size w w' := by
  obtain ⟨te, po, pw⟩ := x
  rcases hx with h | h | h <;> (simp only at h; subst h)
  · exact behind_blank m s po pw w hh h0 h1 h2 h3 h4
  · exact behind_zero m s po pw w hh h0 h1 h2 h3 h4
  · exact behind_one m s po pw w hh h0 h1 h2 h3 h4
end Go.Proofs.YtenofigclkbbiaaDoor
