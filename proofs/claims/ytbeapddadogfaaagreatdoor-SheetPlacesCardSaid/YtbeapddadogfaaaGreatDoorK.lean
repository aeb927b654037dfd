/-
  The stable sort of a short row.
-/
import Derived.Test.YtbeapddadogfaaaGreatDoorJ
set_option linter.unusedVariables false
set_option linter.unusedSimpArgs false
namespace Go.Proofs.YtbeapddadogfaaaGreatDoor
open Go.RowKit
open Sheet

/-- Behind the sort of a row in block g. -/
def Sorted (key : Nat → Int) (g : Nat) (xs : List Nat) (w : World) (e : Ending) (w' : World) : Prop := e = .returned (.tuple #[]) ∧ RowL w' g (ins key xs xs.length).reverse ∧ w.grownBy w' (some g)
theorem stable_any (key : Nat → Int) (T g cap : Nat) (xs : List Nat) (w : World) (hlen : xs.length < 20)
    (h : Calls Tryz.prog 113 #[.slice (some ⟨g, 0, none⟩) xs.length cap, .int .i64 0, .int .i64 xs.length, .func (.func 84) #[] #[.pointer (some ⟨T, 0, none⟩)]] w (Sorted key g xs w)) :
    Calls Tryz.prog 99 #[.slice (some ⟨g, 0, none⟩) xs.length cap, .int .i64 xs.length, .func (.func 84) #[] #[.pointer (some ⟨T, 0, none⟩)]] w (Sorted key g xs w) := by
  have hd1 : decide ((20 : Int) ≤ (xs.length : Int)) = false := decide_eq_false (by omega)
  have hd2 : decide ((20 : Int) < (xs.length : Int)) = false := decide_eq_false (by omega)
  have hn : Hid (xs.length < 20) := hlen
  go_enter Tryz.func99, Tryz.ntmps99
  go_wp2
  refine wp_loop_rounds 1 ?_
  rw [rounds_succ]
  go_wp2_with (go_at_call 113; refine h.mono ?_; rintro e w' ⟨rfl, hr, hg⟩)
  refine wp_loop_rounds 1 ?_
  rw [rounds_succ]
  go_wp2
  go_end0
  exact ⟨rfl, hr, hg⟩
theorem sortStable_any (key : Nat → Int) (T g cap : Nat) (xs : List Nat) (w : World) (hlen : xs.length < 20)
    (h : Calls Tryz.prog 113 #[.slice (some ⟨g, 0, none⟩) xs.length cap, .int .i64 0, .int .i64 xs.length, .func (.func 84) #[] #[.pointer (some ⟨T, 0, none⟩)]] w (Sorted key g xs w)) :
    Calls Tryz.prog 83 #[.slice (some ⟨g, 0, none⟩) xs.length cap, .func (.func 84) #[] #[.pointer (some ⟨T, 0, none⟩)]] w (Sorted key g xs w) := by
  have hs := stable_any key T g cap xs w hlen h
  clear h
  go_enter Tryz.func83, Tryz.ntmps83
  go_wp2_with (go_at_call 99; refine hs.mono ?_; rintro e w' ⟨rfl, hr, hg⟩)
  go_end0
  exact ⟨rfl, hr, hg⟩
/-- A row of nothing. -/
theorem stable_nil (f : Value) (w : World) : Calls Tryz.prog 83 #[.slice none 0 0, f] w fun e w' => e = .returned (.tuple #[]) ∧ w = w' := by
  have h1 : Calls Tryz.prog 113 #[.slice none 0 0, .int .i64 0, .int .i64 0, f] w fun e w' => e = .returned (.tuple #[]) ∧ w = w' := by
    go_enter Tryz.func113, Tryz.ntmps113
    go_wp2
    refine wp_loop_rounds 1 ?_
    rw [rounds_succ]
    go_wp2
    go_end0
    exact ⟨rfl, rfl⟩
  have h2 : Calls Tryz.prog 99 #[.slice none 0 0, .int .i64 0, f] w fun e w' => e = .returned (.tuple #[]) ∧ w = w' := by
    go_enter Tryz.func99, Tryz.ntmps99
    go_wp2
    refine wp_loop_rounds 1 ?_
    rw [rounds_succ]
    go_wp2_with (go_at_call 113; refine h1.mono ?_; rintro e w' ⟨rfl, rfl⟩)
    refine wp_loop_rounds 1 ?_
    rw [rounds_succ]
    go_wp2
    go_end0
    exact ⟨rfl, rfl⟩
  go_enter Tryz.func83, Tryz.ntmps83
  go_wp2_with (go_at_call 99; refine h2.mono ?_; rintro e w' ⟨rfl, rfl⟩)
  go_end0
  exact ⟨rfl, rfl⟩
end Go.Proofs.YtbeapddadogfaaaGreatDoor
