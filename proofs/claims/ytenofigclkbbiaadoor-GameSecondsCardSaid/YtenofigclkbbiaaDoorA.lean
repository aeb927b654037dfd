/-
  Contracts of the small functions of layer 8.
-/
import Derived.Test.YtenofigclkbbiaaDoorBase
import Derived.Test.YtenofigclkbbiaaDoorSpec
namespace Go.Proofs.YtenofigclkbbiaaDoor
open Go.RowKit
open Game

theorem within_any (a b c : Int) (w : World) : Calls Tryd.prog 39 #[.int .i64 a, .int .i64 b, .int .i64 c] w fun e w' => e = .returned (.bool (wi a b c)) ∧ w = w' := by
  go_enter Tryd.func39, Tryd.ntmps39
  go_wp2
  all_goals (go_ret; exact ⟨by simp [wi]; omega, rfl⟩)
theorem In_any (a b c : Int) (w : World) : Calls Tryd.prog 66 #[.int .i64 a, .int .i64 b, .int .i64 c] w fun e w' => e = .returned (.bool (wi a b c)) ∧ w = w' := by
  go_enter Tryd.func66, Tryd.ntmps66
  go_wp2
  all_goals (go_ret; exact ⟨by simp [wi]; omega, rfl⟩)
theorem in_any (a b c : Int) (w : World) : Calls Tryd.prog 42 #[.int .i64 a, .int .i64 b, .int .i64 c] w fun e w' => e = .returned (.bool (wi a b c)) ∧ w = w' := by
  go_enter Tryd.func42, Tryd.ntmps42
  go_wp2_with (go_at_call 66; refine (In_any _ _ _ _).mono ?_; rintro e w' ⟨rfl, rfl⟩)
  go_ret
  exact ⟨rfl, rfl⟩
/-- A match as a value. -/
abbrev mval (m : Mt) : Value := .agg #[.int .i64 m.ends, .int .i64 m.most, .int .i64 m.early, .bool m.change, .bool m.power]
/-- A standing as a value. -/
abbrev sval (s : St) : Value := .agg #[.int .i64 s.p0, .int .i64 s.p1, .int .i64 s.ends, .int .i64 s.hammer, .int .i64 s.winner, .bool s.over, .bool s.extra, .bool s.w0, .bool s.w1]
/-- A line as a value. -/
abbrev xval (x : Ln) : Value := .agg #[.int .i64 x.team, .int .i64 x.points, .bool x.power]
theorem checkMatch_wi (a b c : Int) (d f : Bool) : checkMatch ⟨a, b, c, d, f⟩ = (wi a 1 16 && wi b 1 8 && wi c 1 a) := by
  rw [Bool.eq_iff_iff]
  simp only [checkMatch, wi, Bool.and_eq_true, decide_eq_true_eq]
  omega
theorem CheckMatch_any (m : Mt) (w : World) : Calls Tryd.prog 17 #[mval m] w fun e w' => e = .returned (.bool (checkMatch m)) ∧ Below w.heap.size w w' := by
  obtain ⟨a, b, c, d, f⟩ := m
  rw [checkMatch_wi]
  go_enter Tryd.func17, Tryd.ntmps17
  go_wp2_with (go_at_call 39; refine (within_any _ _ _ _).mono ?_; rintro e w' ⟨rfl, rfl⟩)
  all_goals (go_ret; exact ⟨by simp [*], b_alloc (Below.refl _ _)⟩)
theorem rCheckMatch_any (m : Mt) (w : World) : Calls Tryd.prog 18 #[mval m] w fun e w' => e = .returned (.bool (checkMatch m)) ∧ Below w.heap.size w w' := by
  obtain ⟨a, b, c, d, f⟩ := m
  rw [checkMatch_wi]
  go_enter Tryd.func18, Tryd.ntmps18
  go_wp2_with (go_at_call 42; refine (in_any _ _ _ _).mono ?_; rintro e w' ⟨rfl, rfl⟩)
  all_goals (go_ret; exact ⟨by simp [*], b_alloc (Below.refl _ _)⟩)
theorem begun_any (n : Int) (w : World) : Calls Tryd.prog 43 #[.int .i64 n] w fun e w' => e = .returned (sval (St.begun n)) ∧ Below w.heap.size w w' := by
  go_enter Tryd.func43, Tryd.ntmps43
  go_wp2
  exact bodyPost_ret (v := sval (St.begun n)) (by simp [results, Tryd.results43, go_sem, St.begun]) rfl ⟨rfl, b_alloc (Below.refl _ _)⟩
theorem bool_eq_of {a b : Bool} (h : a = true ↔ b = true) : Ending.returned (.bool a) = .returned (.bool b) := by rw [Bool.eq_iff_iff.2 h]
theorem fits_any (m : Mt) (s : St) (x : Ln) (w : World) (hh : s.over = false → s.hammer = 0 ∨ s.hammer = 1) :
    Calls Tryd.prog 44 #[mval m, sval s, xval x] w fun e w' => e = .returned (.bool (fits m s x)) ∧ Below w.heap.size w w' := by
  obtain ⟨me, mm, ma, mc, mp⟩ := m
  obtain ⟨p0, p1, en, ha, wi, ov, ex, w0, w1⟩ := s
  obtain ⟨te, po, pw⟩ := x
  cases ov
  · rcases hh rfl with h | h
    · simp only at h
      subst h
      go_enter Tryd.func44, Tryd.ntmps44
      go_wp2_with (go_at_call 42; refine (in_any _ _ _ _).mono ?_; rintro e w' ⟨rfl, rfl⟩)
      all_goals (go_ret; refine ⟨bool_eq_of ?_, b_alloc (b_alloc (b_alloc (Below.refl _ _)))⟩; simp [fits, St.gone, Game.wi] at *; (try simp [*]); first | done | omega | (intro h; exact absurd h (by omega)))
    · simp only at h
      subst h
      go_enter Tryd.func44, Tryd.ntmps44
      go_wp2_with (go_at_call 42; refine (in_any _ _ _ _).mono ?_; rintro e w' ⟨rfl, rfl⟩)
      all_goals (go_ret; refine ⟨bool_eq_of ?_, b_alloc (b_alloc (b_alloc (Below.refl _ _)))⟩; simp [fits, St.gone, Game.wi] at *; (try simp [*]); first | done | omega | (intro h; exact absurd h (by omega)))
  · go_enter Tryd.func44, Tryd.ntmps44
    go_wp2_with (go_at_call 42; refine (in_any _ _ _ _).mono ?_; rintro e w' ⟨rfl, rfl⟩)
    all_goals (go_ret; refine ⟨bool_eq_of ?_, b_alloc (b_alloc (b_alloc (Below.refl _ _)))⟩; simp [fits])
end Go.Proofs.YtenofigclkbbiaaDoor
