/-
  The clock of the reference: its calls that only look.
-/
import Derived.Test.YtenofigclkbbiaaDoorP
set_option linter.unusedVariables false
set_option linter.unusedSimpArgs false
namespace Go.Proofs.YtenofigclkbbiaaDoor
open Go.RowKit
open Game
theorem rOuts_any (c : Ck) (team : Int) (w : World) :
    Calls Tryd.prog 59 #[rval c, .int .i64 team] w fun e w' => e = .returned (.tuple #[.int .i64 (if wi team 0 1 = true then c.outsOf team else 0), .int .i64 (if wi team 0 1 = true then 0 else 2)]) ∧ Below w.heap.size w w' := by
  by_cases hw : wi team 0 1 = true
  · have h1 : team = 0 ∨ team = 1 := by simp [wi] at hw; omega
    rw [if_pos hw, if_pos hw]
    rcases h1 with rfl | rfl
    · go_enter Tryd.func59, Tryd.ntmps59
      go_wp2_with (go_at_call 42; refine (in_any _ _ _ _).mono ?_; rintro e w' ⟨rfl, rfl⟩)
      go_ret2
      exact ⟨by simp [Ck.outsOf], by (repeat (first | (with_reducible exact Below.refl _ _) | (with_reducible assumption) | (with_reducible refine b_alloc ?_) | (with_reducible refine b_drew ?_) | (with_reducible refine b_drewN ?_) | (with_reducible refine b_set ?_ (by first | (simp; done) | (dsimp only; omega))) | (with_reducible refine b_call ?_ (by assumption))))⟩
    · go_enter Tryd.func59, Tryd.ntmps59
      go_wp2_with (go_at_call 42; refine (in_any _ _ _ _).mono ?_; rintro e w' ⟨rfl, rfl⟩)
      go_ret2
      exact ⟨by simp [Ck.outsOf], by (repeat (first | (with_reducible exact Below.refl _ _) | (with_reducible assumption) | (with_reducible refine b_alloc ?_) | (with_reducible refine b_drew ?_) | (with_reducible refine b_drewN ?_) | (with_reducible refine b_set ?_ (by first | (simp; done) | (dsimp only; omega))) | (with_reducible refine b_call ?_ (by assumption))))⟩
  · have hw' := Bool.eq_false_iff.2 hw
    rw [if_neg hw, if_neg hw]
    go_enter Tryd.func59, Tryd.ntmps59
    go_wp2_with (go_at_call 42; refine (in_any _ _ _ _).mono ?_; rintro e w' ⟨rfl, rfl⟩)
    go_ret2
    exact ⟨rfl, by (repeat (first | (with_reducible exact Below.refl _ _) | (with_reducible assumption) | (with_reducible refine b_alloc ?_) | (with_reducible refine b_drew ?_) | (with_reducible refine b_drewN ?_) | (with_reducible refine b_set ?_ (by first | (simp; done) | (dsimp only; omega))) | (with_reducible refine b_call ?_ (by assumption))))⟩
end Go.Proofs.YtenofigclkbbiaaDoor
