/-
  The clock of the reference: time passes.
-/
import Derived.Test.YtenofigclkbbiaaDoorO
import Derived.BigRegion
set_option linter.unusedVariables false
set_option linter.unusedSimpArgs false
namespace Go.Proofs.YtenofigclkbbiaaDoor
open Go.RowKit
open Game
/-- A clock as a value of the reference's. -/
abbrev rval (c : Ck) : Value := .agg #[.int .i64 c.tot, .int .i64 c.ext, .int .i64 c.outs, .int .i64 c.len, .int .i64 c.l0, .int .i64 c.l1, .int .i64 c.o0, .int .i64 c.o1, .int .i64 c.now, .int .i64 c.team, .int .i64 c.til]
theorem timed_any (c : Ck) (t : Int) (w : World) : Calls Tryd.prog 57 #[rval c, .int .i64 t] w fun e w' => e = .returned (.bool (wi t c.now 1073741824)) ∧ Below w.heap.size w w' := by
  go_enter Tryd.func57, Tryd.ntmps57
  go_wp2_with (go_at_call 42; refine (in_any _ _ _ _).mono ?_; rintro e w' ⟨rfl, rfl⟩)
  go_ret
  exact ⟨rfl, by (repeat (first | (with_reducible exact Below.refl _ _) | (with_reducible assumption) | (with_reducible refine b_alloc ?_) | (with_reducible refine b_drew ?_) | (with_reducible refine b_drewN ?_) | (with_reducible refine b_set ?_ (by first | (simp; done) | (dsimp only; omega))) | (with_reducible refine b_call ?_ (by assumption))))⟩
set_option maxHeartbeats 2000000 in
theorem passed_any (c : Ck) (t : Int) (w : World) (hok : c.Ok) (hb : 0 ≤ t ∧ t ≤ 1073741824) (ht : c.team = -1 ∨ c.team = 0 ∨ c.team = 1) :
    Calls Tryd.prog 58 #[rval c, .int .i64 t] w fun e w' => e = .returned (rval (c.passed t)) ∧ Below w.heap.size w w' := by
  obtain ⟨⟨a1, a2⟩, ⟨a3, a4⟩, ⟨a5, a6⟩, ⟨a7, a8⟩⟩ := hok
  obtain ⟨tot, ext, outs, len, l0, l1, o0, o1, team, now, til⟩ := c
  simp only at a1 a2 a3 a4 a5 a6 a7 a8 ht
  have fin : ∀ {C d : Ck} {Wx : World}, d = C → Below w.heap.size w Wx → (Ending.returned (rval d) = Ending.returned (rval C) ∧ Below w.heap.size w Wx) := fun h hb => ⟨by rw [h], hb⟩
  rcases ht with rfl | rfl | rfl
  · go_enter Tryd.func58, Tryd.ntmps58
    go_wp2
    apply bodyPost_ret
    · simp [results, Tryd.results58, go_sem]; rfl
    · rfl
    · exact fin (d := ⟨_, _, _, _, _, _, _, _, _, _, _⟩) (by simp [Ck.passed, Ck.left, Ck.of]) (by (repeat (first | (with_reducible exact Below.refl _ _) | (with_reducible assumption) | (with_reducible refine b_alloc ?_) | (with_reducible refine b_drew ?_) | (with_reducible refine b_drewN ?_) | (with_reducible refine b_set ?_ (by first | (simp; done) | (dsimp only; omega))) | (with_reducible refine b_call ?_ (by assumption)))))
  · go_enter Tryd.func58, Tryd.ntmps58
    go_wp2
    all_goals go_region
    all_goals go_wp2
    all_goals
      apply bodyPost_ret
      · simp [results, Tryd.results58, go_sem]; rfl
      · rfl
      · exact fin (d := ⟨_, _, _, _, _, _, _, _, _, _, _⟩) (by simp [Ck.passed, Ck.left, Ck.of]; omega) (by (repeat (first | (with_reducible exact Below.refl _ _) | (with_reducible assumption) | (with_reducible refine b_alloc ?_) | (with_reducible refine b_drew ?_) | (with_reducible refine b_drewN ?_) | (with_reducible refine b_set ?_ (by first | (simp; done) | (dsimp only; omega))) | (with_reducible refine b_call ?_ (by assumption)))))
  · go_enter Tryd.func58, Tryd.ntmps58
    go_wp2
    all_goals go_region
    all_goals go_wp2
    all_goals
      apply bodyPost_ret
      · simp [results, Tryd.results58, go_sem]; rfl
      · rfl
      · exact fin (d := ⟨_, _, _, _, _, _, _, _, _, _, _⟩) (by simp [Ck.passed, Ck.left, Ck.of]; omega) (by (repeat (first | (with_reducible exact Below.refl _ _) | (with_reducible assumption) | (with_reducible refine b_alloc ?_) | (with_reducible refine b_drew ?_) | (with_reducible refine b_drewN ?_) | (with_reducible refine b_set ?_ (by first | (simp; done) | (dsimp only; omega))) | (with_reducible refine b_call ?_ (by assumption)))))
end Go.Proofs.YtenofigclkbbiaaDoor
