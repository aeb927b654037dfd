/-
  Clocks that no call made.
-/
import Derived.Test.YtenofigclkbbiaaDoorAw
set_option linter.unusedVariables false
set_option linter.unusedSimpArgs false
namespace Go.Proofs.YtenofigclkbbiaaDoor
open Go.RowKit
open Game
/-- No clock: nil, or one that is not made. -/
def NoCk (w : World) (v : Value) : Prop := v = .pointer none ∨ ∃ g, v = .pointer (some ⟨g, 0, none⟩) ∧ w.cell? ⟨g, 4, none⟩ = some (.bool false)
theorem is_no (v : Value) (w : World) (h : NoCk w v) : Calls Tryd.prog 53 #[v] w fun e w' => e = .returned (.bool false) ∧ w = w' := by
  rcases h with rfl | ⟨g, rfl, hc⟩
  all_goals
    go_enter Tryd.func53, Tryd.ntmps53
    go_wp2
    go_ret
    exact ⟨rfl, rfl⟩
theorem wrong_no (v : Value) (team t : Int) (w : World) (h : NoCk w v) : Calls Tryd.prog 54 #[v, .int .i64 team, .int .i64 t] w fun e w' => e = .returned (.int .i64 1) ∧ w = w' := by
  go_enter Tryd.func54, Tryd.ntmps54
  go_wp2_with (go_at_call 53; refine (is_no v _ h).mono ?_; rintro e w' ⟨rfl, rfl⟩)
  go_ret
  exact ⟨rfl, rfl⟩
theorem Left_no (v : Value) (team t : Int) (w : World) (h : NoCk w v) : Calls Tryd.prog 24 #[v, .int .i64 team, .int .i64 t] w fun e w' => e = .returned (.tuple #[.int .i64 0, .int .i64 1]) ∧ w = w' := by
  go_enter Tryd.func24, Tryd.ntmps24
  go_wp2_with (go_at_call 54; refine (wrong_no v _ _ _ h).mono ?_; rintro e w' ⟨rfl, rfl⟩)
  go_ret2
  exact ⟨rfl, rfl⟩
theorem Outs_no (v : Value) (team : Int) (w : World) (h : NoCk w v) : Calls Tryd.prog 38 #[v, .int .i64 team] w fun e w' => e = .returned (.tuple #[.int .i64 0, .int .i64 1]) ∧ w = w' := by
  go_enter Tryd.func38, Tryd.ntmps38
  go_wp2_with (go_at_call 53; refine (is_no v _ h).mono ?_; rintro e w' ⟨rfl, rfl⟩)
  go_ret2
  exact ⟨rfl, rfl⟩
theorem Running_no (v : Value) (w : World) (h : NoCk w v) : Calls Tryd.prog 22 #[v] w fun e w' => e = .returned (.tuple #[.int .i64 (-1), .int .i64 0]) ∧ w = w' := by
  go_enter Tryd.func22, Tryd.ntmps22
  go_wp2_with (go_at_call 53; refine (is_no v _ h).mono ?_; rintro e w' ⟨rfl, rfl⟩)
  go_ret2
  exact ⟨rfl, rfl⟩
theorem Start_no (v : Value) (team t : Int) (w : World) (h : NoCk w v) : Calls Tryd.prog 25 #[v, .int .i64 team, .int .i64 t] w fun e w' => e = .returned (.int .i64 1) ∧ w = w' := by
  go_enter Tryd.func25, Tryd.ntmps25
  go_wp2_with (go_at_call 54; refine (wrong_no v _ _ _ h).mono ?_; rintro e w' ⟨rfl, rfl⟩)
  go_ret
  exact ⟨rfl, rfl⟩
theorem Stop_no (v : Value) (t : Int) (w : World) (h : NoCk w v) : Calls Tryd.prog 26 #[v, .int .i64 t] w fun e w' => e = .returned (.int .i64 1) ∧ w = w' := by
  go_enter Tryd.func26, Tryd.ntmps26
  go_wp2_with (go_at_call 54; refine (wrong_no v _ _ _ h).mono ?_; rintro e w' ⟨rfl, rfl⟩)
  go_ret
  exact ⟨rfl, rfl⟩
theorem Out_no (v : Value) (team t : Int) (w : World) (h : NoCk w v) : Calls Tryd.prog 27 #[v, .int .i64 team, .int .i64 t] w fun e w' => e = .returned (.int .i64 1) ∧ w = w' := by
  go_enter Tryd.func27, Tryd.ntmps27
  go_wp2_with (go_at_call 54; refine (wrong_no v _ _ _ h).mono ?_; rintro e w' ⟨rfl, rfl⟩)
  go_ret
  exact ⟨rfl, rfl⟩
theorem Extra_no (v : Value) (t : Int) (w : World) (h : NoCk w v) : Calls Tryd.prog 28 #[v, .int .i64 t] w fun e w' => e = .returned (.int .i64 1) ∧ w = w' := by
  go_enter Tryd.func28, Tryd.ntmps28
  go_wp2_with (go_at_call 54; refine (wrong_no v _ _ _ h).mono ?_; rintro e w' ⟨rfl, rfl⟩)
  go_ret
  exact ⟨rfl, rfl⟩
end Go.Proofs.YtenofigclkbbiaaDoor
