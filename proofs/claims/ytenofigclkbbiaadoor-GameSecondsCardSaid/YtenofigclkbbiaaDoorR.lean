/-
  Small functions of the laws.
-/
import Derived.Test.YtenofigclkbbiaaDoorA
set_option linter.unusedVariables false
set_option linter.unusedSimpArgs false
namespace Go.Proofs.YtenofigclkbbiaaDoor
open Go.RowKit
open Game
/-- The time of a call. -/
def atOf (what team t : Int) (later : Bool) (now : Int) : Int := if later = true then now + t else t
theorem at_any (what team t : Int) (later : Bool) (now : Int) (w : World) (hb : -1099511627776 ≤ t ∧ t ≤ 1099511627776) (hn : 0 ≤ now ∧ now ≤ 1099511627776) :
    Calls Tryd.prog 23 #[.agg #[.int .i64 what, .int .i64 team, .int .i64 t, .bool later], .int .i64 now] w fun e w' => e = .returned (.int .i64 (atOf what team t later now)) ∧ Below w.heap.size w w' := by
  cases later
  · go_enter Tryd.func23, Tryd.ntmps23
    go_wp2
    all_goals (go_ret; exact ⟨by simp [atOf], by (repeat (first | (with_reducible exact Below.refl _ _) | (with_reducible assumption) | (with_reducible refine b_alloc ?_) | (with_reducible refine b_drew ?_) | (with_reducible refine b_drewN ?_) | (with_reducible refine b_set ?_ (by first | (simp; done) | (dsimp only; omega))) | (with_reducible refine b_call ?_ (by assumption))))⟩)
  · go_enter Tryd.func23, Tryd.ntmps23
    go_wp2
    all_goals (go_ret; exact ⟨by simp [atOf], by (repeat (first | (with_reducible exact Below.refl _ _) | (with_reducible assumption) | (with_reducible refine b_alloc ?_) | (with_reducible refine b_drew ?_) | (with_reducible refine b_drewN ?_) | (with_reducible refine b_set ?_ (by first | (simp; done) | (dsimp only; omega))) | (with_reducible refine b_call ?_ (by assumption))))⟩)
/-- The other team; what is none stays. -/
def swap (x : Int) : Int := if x = 0 ∨ x = 1 then 1 - x else x
theorem swapped_any (x : Int) (w : World) : Calls Tryd.prog 20 #[.int .i64 x] w fun e w' => e = .returned (.int .i64 (swap x)) ∧ w = w' := by
  by_cases h0 : x = 0
  · subst h0
    go_enter Tryd.func20, Tryd.ntmps20
    go_wp2
    go_ret
    exact ⟨rfl, rfl⟩
  · by_cases h1 : x = 1
    · subst h1
      go_enter Tryd.func20, Tryd.ntmps20
      go_wp2
      go_ret
      exact ⟨rfl, rfl⟩
    · go_enter Tryd.func20, Tryd.ntmps20
      go_wp2
      all_goals (go_ret; exact ⟨by simp [swap, h0, h1], rfl⟩)
end Go.Proofs.YtenofigclkbbiaaDoor
