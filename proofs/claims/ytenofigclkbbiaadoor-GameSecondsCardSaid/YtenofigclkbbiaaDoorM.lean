/-
  The clock of the program: its calls.
-/
import Derived.Test.YtenofigclkbbiaaDoorL
set_option linter.unusedVariables false
set_option linter.unusedSimpArgs false
namespace Go.Proofs.YtenofigclkbbiaaDoor
namespace Game
def Ck.start (c : Ck) (team t : Int) : Ck × Int :=
  if c.wrong team t ≠ 0 then (c, c.wrong team t) else if c.team ≠ -1 then (c, 9) else if c.of team = 0 then (c, 7) else ({ c.passed t with team := team }, 0)
def Ck.stop (c : Ck) (t : Int) : Ck × Int :=
  if c.wrong 0 t ≠ 0 then (c, c.wrong 0 t) else if c.team = -1 then (c, 9) else ({ c.passed t with team := -1 }, 0)
theorem Ck.wrong_0 {c : Ck} {team t : Int} (h : c.wrong team t = 0) : (team = 0 ∨ team = 1) ∧ c.now ≤ t ∧ t ≤ 1073741824 := by
  unfold Ck.wrong at h
  by_cases h1 : wi team 0 1 = true
  · by_cases h2 : wi t c.now 1073741824 = true
    · simp [wi] at h1 h2
      omega
    · simp [h1, h2] at h
  · simp [h1] at h
end Game
open Go.RowKit
open Game
theorem timesOk_wi (a b o l : Int) : timesOk a b o l = (wi a 1 1073741824 && wi b 0 100000 && wi l 0 100000 && wi o 0 10) := by
  rw [Bool.eq_iff_iff]
  simp only [timesOk, wi, Bool.and_eq_true, decide_eq_true_eq]
  omega
theorem CheckTimes_any (a b o l : Int) (w : World) : Calls Tryd.prog 30 #[.agg #[.int .i64 a, .int .i64 b, .int .i64 o, .int .i64 l]] w fun e w' => e = .returned (.bool (timesOk a b o l)) ∧ Below w.heap.size w w' := by
  rw [timesOk_wi]
  go_enter Tryd.func30, Tryd.ntmps30
  go_wp2_with (go_at_call 39; refine (within_any _ _ _ _).mono ?_; rintro e w' ⟨rfl, rfl⟩)
  all_goals (go_ret; exact ⟨by simp [*], b_alloc (Below.refl _ _)⟩)
theorem rCheckTimes_any (a b o l : Int) (w : World) : Calls Tryd.prog 29 #[.agg #[.int .i64 a, .int .i64 b, .int .i64 o, .int .i64 l]] w fun e w' => e = .returned (.bool (timesOk a b o l)) ∧ Below w.heap.size w w' := by
  rw [timesOk_wi]
  go_enter Tryd.func29, Tryd.ntmps29
  go_wp2_with (go_at_call 42; refine (in_any _ _ _ _).mono ?_; rintro e w' ⟨rfl, rfl⟩)
  all_goals (go_ret; exact ⟨by simp [*], b_alloc (Below.refl _ _)⟩)
theorem NewClock_bad (a b o l : Int) (w : World) (h : timesOk a b o l = false) : Calls Tryd.prog 21 #[.agg #[.int .i64 a, .int .i64 b, .int .i64 o, .int .i64 l]] w fun e w' => e = .returned (.tuple #[.pointer none, .int .i64 2]) ∧ Below w.heap.size w w' := by
  go_enter Tryd.func21, Tryd.ntmps21
  go_wp2_with (go_at_call 30; refine (CheckTimes_any _ _ _ _ _).mono ?_; rintro e w1 ⟨rfl, hb1⟩; obtain ⟨hc1, hf1⟩ := bcell hb1)
  go_ret2
  exact ⟨rfl, by (repeat (first | (with_reducible exact Below.refl _ _) | (with_reducible assumption) | (with_reducible refine b_alloc ?_) | (with_reducible refine b_drew ?_) | (with_reducible refine b_drewN ?_) | (with_reducible refine b_set ?_ (by first | (simp; done) | (dsimp only; omega))) | (with_reducible refine b_call ?_ (by assumption))))⟩
theorem NewClock_good (a b o l : Int) (w : World) (h : timesOk a b o l = true) : Calls Tryd.prog 21 #[.agg #[.int .i64 a, .int .i64 b, .int .i64 o, .int .i64 l]] w fun e w' => ∃ g, e = .returned (.tuple #[.pointer (some ⟨g, 0, none⟩), .int .i64 0]) ∧ w.heap.size ≤ g ∧ CkAt w' g (Ck.new a b o l) ∧ Below w.heap.size w w' := by
  go_enter Tryd.func21, Tryd.ntmps21
  go_wp2_with (go_at_call 30; refine (CheckTimes_any _ _ _ _ _).mono ?_; rintro e w1 ⟨rfl, hb1⟩; obtain ⟨hc1, hf1⟩ := bcell hb1; have hz1 : w.heap.size + 1 ≤ w1.heap.size := by have := hb1.size; simpa using this)
  go_ret2
  exact ⟨_, rfl, by omega, by constructor <;> simp [go_sem, Ck.new], by (repeat (first | (with_reducible exact Below.refl _ _) | (with_reducible assumption) | (with_reducible refine b_alloc ?_) | (with_reducible refine b_drew ?_) | (with_reducible refine b_drewN ?_) | (with_reducible refine b_set ?_ (by first | (simp; done) | (dsimp only; omega))) | (with_reducible refine b_call ?_ (by assumption))))⟩
theorem cLeft_any (g : Nat) (c : Ck) (team t : Int) (w : World) (h : CkAt w g c) (hok : c.Ok) :
    Calls Tryd.prog 24 #[.pointer (some ⟨g, 0, none⟩), .int .i64 team, .int .i64 t] w fun e w' => e = .returned (.tuple #[.int .i64 (if c.wrong team t = 0 then c.left team t else 0), .int .i64 (c.wrong team t)]) ∧ Below w.heap.size w w' := by
  by_cases hw : c.wrong team t = 0
  · obtain ⟨h1, h2, h3⟩ := Ck.wrong_0 hw
    have hbb : 0 ≤ t ∧ t ≤ 1073741824 := ⟨by have := hok.now; omega, h3⟩
    have hwr := wrong_any g c team t w h
    rw [hw] at hwr
    rw [hw]
    clear hw
    go_enter Tryd.func24, Tryd.ntmps24
    go_wp2_with (first
      | (go_at_call 54; refine hwr.mono ?_; rintro e w' ⟨rfl, rfl⟩)
      | (go_at_call 55; refine (cat_any g c team t w h hok h1 hbb).mono ?_; rintro e w1 ⟨rfl, hb1⟩))
    go_ret2
    exact ⟨by simp, hb1⟩
  · have hwr := wrong_any g c team t w h
    rw [if_neg hw]
    have hne : (c.wrong team t != 0) = true := by simpa using hw
    clear hw
    go_enter Tryd.func24, Tryd.ntmps24
    go_wp2_with (go_at_call 54; refine hwr.mono ?_; rintro e w' ⟨rfl, rfl⟩)
    go_ret2
    exact ⟨rfl, by (repeat (first | (with_reducible exact Below.refl _ _) | (with_reducible assumption) | (with_reducible refine b_alloc ?_) | (with_reducible refine b_drew ?_) | (with_reducible refine b_drewN ?_) | (with_reducible refine b_set ?_ (by first | (simp; done) | (dsimp only; omega))) | (with_reducible refine b_call ?_ (by assumption))))⟩
theorem Running_any (g : Nat) (c : Ck) (w : World) (h : CkAt w g c) : Calls Tryd.prog 22 #[.pointer (some ⟨g, 0, none⟩)] w fun e w' => e = .returned (.tuple #[.int .i64 c.team, .int .i64 c.now]) ∧ Below w.heap.size w w' := by
  have hC := h
  obtain ⟨c0, c1, c2, c3, c4, c5, c6, c7, c8, c9, c10, c11, cf, cz⟩ := hC
  go_enter Tryd.func22, Tryd.ntmps22
  go_wp2_with (go_at_call 53; refine (is_any g c _ h).mono ?_; rintro e w' ⟨rfl, rfl⟩)
  go_region
  all_goals go_wp2
  all_goals (go_ret2; exact ⟨rfl, by (repeat (first | (with_reducible exact Below.refl _ _) | (with_reducible assumption) | (with_reducible refine b_alloc ?_) | (with_reducible refine b_drew ?_) | (with_reducible refine b_drewN ?_) | (with_reducible refine b_set ?_ (by first | (simp; done) | (dsimp only; omega))) | (with_reducible refine b_call ?_ (by assumption))))⟩)
end Go.Proofs.YtenofigclkbbiaaDoor
