/-
  Contracts of the small functions of layer 2: sizes, places, squares, zones, contacts.
-/
import Derived.Test.YtbeapddadogfaaaGreatDoorBase
import Derived.Test.YtbeapddadogfaaaGreatDoorBasb
import Derived.Test.YtbeapddadogfaaaGreatDoorSpec
set_option linter.unusedVariables false
set_option linter.unusedSimpArgs false
namespace Go.Proofs.YtbeapddadogfaaaGreatDoor
open Go.RowKit
open Sheet

/-- A place as a value. -/
abbrev pval (x y : Int) : Value := .agg #[.int .i64 x, .int .i64 y]
/-- A stone as a value. -/
abbrev sval (s : Sn) : Value := .agg #[.int .i64 s.team, .int .i64 s.n, .int .i64 s.x, .int .i64 s.y]
theorem ret_int {k : IntKind} {a b : Int} (h : a = b) : Ending.returned (.int k a) = .returned (.int k b) := by rw [h]
theorem ret_bool {a b : Bool} (h : a = b) : Ending.returned (.bool a) = .returned (.bool b) := by rw [h]
theorem size_any (n : Int) (w : World) (h0 : -9223372036854775807 ≤ n) (h1 : n ≤ 9223372036854775807) : Calls Tryz.prog 56 #[.int .i64 n] w fun e w' => e = .returned (.int .i64 (sz n)) ∧ w = w' := by
  go_enter Tryz.func56, Tryz.ntmps56
  go_wp2
  all_goals (go_ret; exact ⟨ret_int (by unfold sz; omega), rfl⟩)
theorem within_any (a b c : Int) (w : World) : Calls Tryz.prog 58 #[.int .i64 a, .int .i64 b, .int .i64 c] w fun e w' => e = .returned (.bool (wi a b c)) ∧ w = w' := by
  go_enter Tryz.func58, Tryz.ntmps58
  go_wp2
  all_goals (go_ret; exact ⟨by simp [wi]; omega, rfl⟩)
theorem withini_any (a b c : Int) (w : World) : Calls Tryz.prog 63 #[.int .i64 a, .int .i64 b, .int .i64 c] w fun e w' => e = .returned (.bool (wi a b c)) ∧ w = w' := by
  go_enter Tryz.func63, Tryz.ntmps63
  go_wp2
  all_goals (go_ret; exact ⟨by simp [wi]; omega, rfl⟩)
theorem In_any (a b c : Int) (w : World) : Calls Tryz.prog 64 #[.int .i64 a, .int .i64 b, .int .i64 c] w fun e w' => e = .returned (.bool (wi a b c)) ∧ w = w' := by
  go_enter Tryz.func64, Tryz.ntmps64
  go_wp2
  all_goals (go_ret; exact ⟨by simp [wi]; omega, rfl⟩)
theorem CheckSpot_any (x y : Int) (w : World) : Calls Tryz.prog 22 #[pval x y] w fun e w' => e = .returned (.bool (vplace x y)) ∧ Below w.heap.size w w' := by
  go_enter Tryz.func22, Tryz.ntmps22
  go_wp2_with (go_at_call 58; refine (within_any _ _ _ _).mono ?_; rintro e w' ⟨rfl, rfl⟩)
  all_goals (go_ret; exact ⟨by simp [vplace, *], b_alloc (Below.refl _ _)⟩)
theorem rCheckSpot_any (x y : Int) (w : World) : Calls Tryz.prog 23 #[pval x y] w fun e w' => e = .returned (.bool (vplace x y)) ∧ Below w.heap.size w w' := by
  go_enter Tryz.func23, Tryz.ntmps23
  go_wp2
  all_goals (go_ret; refine ⟨ret_bool ?_, b_alloc (Below.refl _ _)⟩; rw [Bool.eq_iff_iff]; simp [vplace, wi]; omega)
/-- A square that fits. -/
theorem sq_bd {x : Int} (h0 : -2000000000 ≤ x) (h1 : x ≤ 2000000000) : 0 ≤ x * x ∧ x * x ≤ 4000000000000000000 := by
  refine ⟨?_, ?_⟩
  · rcases (by omega : x ≤ 0 ∨ 0 ≤ x) with h | h
    · exact Int.mul_nonneg_of_nonpos_of_nonpos h h
    · exact Int.mul_nonneg h h
  have := Int.mul_nonneg (a := 2000000000 - x) (b := 2000000000 + x) (by omega) (by omega)
  rw [Int.sub_mul, Int.mul_add, Int.mul_add] at this
  omega
theorem square_any (x y : Int) (w : World) (hx0 : -2000000000 ≤ x) (hx1 : x ≤ 2000000000) (hy0 : -2000000000 ≤ y) (hy1 : y ≤ 2000000000) :
    Calls Tryz.prog 68 #[pval x y] w fun e w' => e = .returned (.int .i64 (sq x y)) ∧ Below w.heap.size w w' := by
  obtain ⟨a0, a1⟩ := sq_bd hx0 hx1
  obtain ⟨b0, b1⟩ := sq_bd hy0 hy1
  go_enter Tryz.func68, Tryz.ntmps68
  go_wp2
  go_ret
  exact ⟨rfl, b_alloc (Below.refl _ _)⟩
theorem rSquare_any (x y : Int) (w : World) (hx0 : -2000000000 ≤ x) (hx1 : x ≤ 2000000000) (hy0 : -2000000000 ≤ y) (hy1 : y ≤ 2000000000) :
    Calls Tryz.prog 33 #[pval x y] w fun e w' => e = .returned (.int .i64 (sq x y)) ∧ Below w.heap.size w w' := by
  obtain ⟨a0, a1⟩ := sq_bd hx0 hx1
  obtain ⟨b0, b1⟩ := sq_bd hy0 hy1
  go_enter Tryz.func33, Tryz.ntmps33
  go_wp2
  go_ret
  exact ⟨rfl, b_alloc (Below.refl _ _)⟩
theorem rSize_any (n : Int) (w : World) (h0 : -9223372036854775807 ≤ n) (h1 : n ≤ 9223372036854775807) : Calls Tryz.prog 57 #[.int .i64 n] w fun e w' => e = .returned (.int .i64 (sz n)) ∧ w = w' := by
  go_enter Tryz.func57, Tryz.ntmps57
  go_wp2
  all_goals (go_ret; exact ⟨ret_int (by unfold sz; omega), rfl⟩)
theorem sz_bd (n b : Int) (h0 : -b ≤ n) (h1 : n ≤ b) : 0 ≤ sz n ∧ sz n ≤ b := by unfold sz; omega
theorem place_bd {x y : Int} (h : vplace x y = true) : -6553600000 ≤ x ∧ x ≤ 6553600000 ∧ -6553600000 ≤ y ∧ y ≤ 6553600000 := by
  simp [vplace, wi] at h; omega
/-- In play: the bounds that squares need. -/
theorem play_bd {x y : Int} (h : away x y = false) : -146145280 ≤ x ∧ x ≤ 146145280 ∧ -419495936 ≤ y ∧ y ≤ 129368064 := by
  unfold away sz at h
  simp only [Bool.or_eq_false_iff, decide_eq_false_iff_not] at h
  omega
theorem away_not {x y : Int} (h : away x y = false) : sz x + 9502720 < 155648000 ∧ y - 9502720 ≤ 119865344 ∧ -419495936 < y - 9502720 := by
  unfold away at h
  simp only [Bool.or_eq_false_iff, decide_eq_false_iff_not] at h
  omega
theorem away_is {x y : Int} (h : away x y = true) : 155648000 ≤ sz x + 9502720 ∨ (sz x + 9502720 < 155648000 ∧ 119865344 < y - 9502720) ∨ (sz x + 9502720 < 155648000 ∧ y - 9502720 ≤ 119865344 ∧ y - 9502720 ≤ -419495936) := by
  unfold away at h
  simp only [Bool.or_eq_true, decide_eq_true_eq] at h
  omega
theorem zone_away {x y : Int} (h : away x y = true) : zone x y = 0 := by unfold zone; rw [if_pos h]
theorem zone_any (x y : Int) (w : World) (h : vplace x y = true) :
    Calls Tryz.prog 54 #[pval x y] w fun e w' => e = .returned (.int .i64 (zone x y)) ∧ Below w.heap.size w w' := by
  obtain ⟨p0, p1, p2, p3⟩ := place_bd h
  obtain ⟨s0, s1⟩ := sz_bd x 6553600000 p0 p1
  clear h
  cases ha : away x y with
  | true =>
    have hz := Lib.hid (zone_away ha)
    have hA := away_is ha
    clear ha
    rcases hA with t1 | ⟨t1, t2⟩ | ⟨t1, t2, t3⟩
    all_goals
      go_enter Tryz.func54, Tryz.ntmps54
      go_wp2_with (go_at_call 56; refine (size_any _ _ (by omega) (by omega)).mono ?_; rintro e w' ⟨rfl, rfl⟩)
      go_ret
      exact ⟨ret_int hz.out.symm, b_alloc (Below.refl _ _)⟩
  | false =>
    obtain ⟨t1, t2, t3⟩ := away_not ha
    have hb := play_bd ha
    have haH := Lib.hid ha
    clear ha
    have hq : ∀ w : World, Calls Tryz.prog 68 #[pval x y] w fun e w' => e = .returned (.int .i64 (sq x y)) ∧ Below w.heap.size w w' := fun w => square_any x y w (by omega) (by omega) (by omega) (by omega)
    obtain ⟨q, hqe⟩ : ∃ q, q = sq x y := ⟨_, rfl⟩
    rw [← hqe] at hq
    have hqH := Lib.hid hqe
    clear hqe
    by_cases c1 : q ≤ 16736095983108096
    · have hz : zone x y = 2 := by unfold zone; rw [if_neg (by rw [haH.out]; decide), ← hqH.out, if_pos c1]
      have hz := Lib.hid hz
      go_enter Tryz.func54, Tryz.ntmps54
      go_wp2_with (first | (go_at_call 56; refine (size_any _ _ (by omega) (by omega)).mono ?_; rintro e w' ⟨rfl, rfl⟩) | (go_at_call 68; refine (hq _).mono ?_; rintro e w1 ⟨rfl, hb1⟩))
      go_ret
      exact ⟨ret_int hz.out.symm, b_call (b_alloc (Below.refl _ _)) hb1⟩
    · have c1 : 16736095983108096 < q := by omega
      by_cases c2 : y + 9502720 < 0
      · have hz : zone x y = 1 := by unfold zone; rw [if_neg (by rw [haH.out]; decide), ← hqH.out, if_neg (by omega), if_pos c2]
        have hz := Lib.hid hz
        go_enter Tryz.func54, Tryz.ntmps54
        go_wp2_with (first | (go_at_call 56; refine (size_any _ _ (by omega) (by omega)).mono ?_; rintro e w' ⟨rfl, rfl⟩) | (go_at_call 68; refine (hq _).mono ?_; rintro e w1 ⟨rfl, hb1⟩; obtain ⟨hc, hf⟩ := bcell hb1))
        go_ret
        exact ⟨ret_int hz.out.symm, b_call (b_alloc (Below.refl _ _)) hb1⟩
      · have c2 : 0 ≤ y + 9502720 := by omega
        have hz : zone x y = 3 := by unfold zone; rw [if_neg (by rw [haH.out]; decide), ← hqH.out, if_neg (by omega), if_neg (by omega)]
        have hz := Lib.hid hz
        go_enter Tryz.func54, Tryz.ntmps54
        go_wp2_with (first | (go_at_call 56; refine (size_any _ _ (by omega) (by omega)).mono ?_; rintro e w' ⟨rfl, rfl⟩) | (go_at_call 68; refine (hq _).mono ?_; rintro e w1 ⟨rfl, hb1⟩; obtain ⟨hc, hf⟩ := bcell hb1))
        go_ret
        exact ⟨ret_int hz.out.symm, b_call (b_alloc (Below.refl _ _)) hb1⟩
end Go.Proofs.YtbeapddadogfaaaGreatDoor
