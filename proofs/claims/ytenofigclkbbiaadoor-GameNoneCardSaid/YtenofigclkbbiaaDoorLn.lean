/-
  GameNone: a clock that no call made returns ErrNil, and nothing: the walk.
-/
import Derived.Test.YtenofigclkbbiaaDoorNn
set_option linter.unusedVariables false
set_option linter.unusedSimpArgs false
namespace Go.Proofs.YtenofigclkbbiaaDoor
open Go.RowKit
open Game
set_option maxHeartbeats 4000000 in
set_option maxRecDepth 100000 in
theorem GameNone_walk (team t : Int) (w : World) (htab : Tab w) : Calls Tryd.prog 9 #[.int .i64 team, .int .i64 t] w fun e w' => e = .returned (.bool true) ∧ Below w.heap.size w w' := by
  have haw := fun (W : World) (hW : Below w.heap.size w W) => awake_any W (htab.below hW (Nat.le_refl _))
  go_enter Tryd.func9, Tryd.ntmps9
  go_wp2
  go_loop [7] (fun i => ∃ k : Nat, k ≤ 2 ∧ i = .int .i64 k) (fun i => 2 - (intOf i).toNat)
  case atStart => exact ⟨0, by omega, rfl⟩
  case round =>
    obtain ⟨k, hk, rfl⟩ := hrel
    have h012 : k = 0 ∨ k = 1 ∨ k = 2 := by omega
    rcases h012 with rfl | rfl | rfl
    · go_wp2_with (first
        | (go_at_call 24; refine (Left_no _ _ _ _ (.inl rfl)).mono ?_; rintro e w' ⟨rfl, rfl⟩)
        | (go_at_call 38; refine (Outs_no _ _ _ (.inl rfl)).mono ?_; rintro e w' ⟨rfl, rfl⟩)
        | (go_at_call 22; refine (Running_no _ _ (.inl rfl)).mono ?_; rintro e w' ⟨rfl, rfl⟩)
        | (go_at_call 25; refine (Start_no _ _ _ _ (.inl rfl)).mono ?_; rintro e w' ⟨rfl, rfl⟩)
        | (go_at_call 26; refine (Stop_no _ _ _ (.inl rfl)).mono ?_; rintro e w' ⟨rfl, rfl⟩)
        | (go_at_call 27; refine (Out_no _ _ _ _ (.inl rfl)).mono ?_; rintro e w' ⟨rfl, rfl⟩)
        | (go_at_call 28; refine (Extra_no _ _ _ (.inl rfl)).mono ?_; rintro e w' ⟨rfl, rfl⟩))
      go_round
      case rel => exact ⟨1, by omega, rfl⟩
      case measure => simp [intOf]
    · have hn : NoCk ((w.alloc (.cells #[.int .i64 0, .int .i64 0, .int .i64 0, .int .i64 0, .bool false, .int .i64 0, .int .i64 0, .int .i64 0, .int .i64 0, .int .i64 0, .int .i64 0, .int .i64 0] 72)).alloc (.cells #[.pointer none, .pointer (some ⟨w.heap.size, 0, none⟩)] 49)) (.pointer (some ⟨w.heap.size, 0, none⟩)) := .inr ⟨_, rfl, by simp⟩
      go_wp2_with (first
        | (go_at_call 24; refine (Left_no _ _ _ _ hn).mono ?_; rintro e w' ⟨rfl, rfl⟩)
        | (go_at_call 38; refine (Outs_no _ _ _ hn).mono ?_; rintro e w' ⟨rfl, rfl⟩)
        | (go_at_call 22; refine (Running_no _ _ hn).mono ?_; rintro e w' ⟨rfl, rfl⟩)
        | (go_at_call 25; refine (Start_no _ _ _ _ hn).mono ?_; rintro e w' ⟨rfl, rfl⟩)
        | (go_at_call 26; refine (Stop_no _ _ _ hn).mono ?_; rintro e w' ⟨rfl, rfl⟩)
        | (go_at_call 27; refine (Out_no _ _ _ _ hn).mono ?_; rintro e w' ⟨rfl, rfl⟩)
        | (go_at_call 28; refine (Extra_no _ _ _ hn).mono ?_; rintro e w' ⟨rfl, rfl⟩))
      go_round
      case rel => exact ⟨2, by omega, rfl⟩
      case measure => simp [intOf]
    · go_wp2_with (go_at_call 10; refine (haw _ (by (repeat (first | (with_reducible exact Below.refl _ _) | (with_reducible assumption) | (with_reducible refine b_alloc ?_) | (with_reducible refine b_drew ?_) | (with_reducible refine b_drewN ?_) | (with_reducible refine b_set ?_ (by first | (simp; done) | (dsimp only; omega))) | (with_reducible refine b_call ?_ (by assumption)))))).mono ?_; rintro e w1 ⟨rfl, hb1⟩)
      go_ret
      exact ⟨rfl, by (repeat (first | (with_reducible exact Below.refl _ _) | (with_reducible assumption) | (with_reducible refine b_alloc ?_) | (with_reducible refine b_drew ?_) | (with_reducible refine b_drewN ?_) | (with_reducible refine b_set ?_ (by first | (simp; done) | (dsimp only; omega))) | (with_reducible refine b_call ?_ (by assumption))))⟩
end Go.Proofs.YtenofigclkbbiaaDoor
