/-
  The clock of the program: time passes.
-/
import Derived.Test.YtenofigclkbbiaaDoorK
import Derived.Test.YtenofigclkbbiaaDoorOnly
import Derived.BigRegion
set_option linter.unusedVariables false
set_option linter.unusedSimpArgs false
namespace Go.Proofs.YtenofigclkbbiaaDoor
open Go.RowKit
open Game

set_option maxHeartbeats 2000000 in
theorem cat_any (g : Nat) (c : Ck) (team t : Int) (w : World) (h : CkAt w g c) (hok : c.Ok) (ht : team = 0 ∨ team = 1) (hb : 0 ≤ t ∧ t ≤ 1073741824) :
    Calls Tryd.prog 55 #[.pointer (some ⟨g, 0, none⟩), .int .i64 team, .int .i64 t] w fun e w' => e = .returned (.int .i64 (c.left team t)) ∧ Below w.heap.size w w' := by
  obtain ⟨o1, o2, o3, o4⟩ := hok
  have hC := h
  obtain ⟨c0, c1, c2, c3, c4, c5, c6, c7, c8, c9, c10, c11, cf, cz⟩ := hC
  rcases ht with rfl | rfl
  · by_cases hq : c.team = 0
    · rw [hq] at c9
      go_enter Tryd.func55, Tryd.ntmps55
      go_wp2
      go_region
      all_goals go_wp2
      all_goals
        go_ret
        exact ⟨by simp [Ck.left, Ck.of, hq]; omega, by (repeat (first | (with_reducible exact Below.refl _ _) | (with_reducible assumption) | (with_reducible refine b_alloc ?_) | (with_reducible refine b_drew ?_) | (with_reducible refine b_drewN ?_) | (with_reducible refine b_set ?_ (by first | (simp; done) | (dsimp only; omega))) | (with_reducible refine b_call ?_ (by assumption))))⟩
    · go_enter Tryd.func55, Tryd.ntmps55
      go_wp2
      go_ret
      exact ⟨by simp [Ck.left, Ck.of, hq], by (repeat (first | (with_reducible exact Below.refl _ _) | (with_reducible assumption) | (with_reducible refine b_alloc ?_) | (with_reducible refine b_drew ?_) | (with_reducible refine b_drewN ?_) | (with_reducible refine b_set ?_ (by first | (simp; done) | (dsimp only; omega))) | (with_reducible refine b_call ?_ (by assumption))))⟩
  · by_cases hq : c.team = 1
    · rw [hq] at c9
      go_enter Tryd.func55, Tryd.ntmps55
      go_wp2
      go_region
      all_goals go_wp2
      all_goals
        go_ret
        exact ⟨by simp [Ck.left, Ck.of, hq]; omega, by (repeat (first | (with_reducible exact Below.refl _ _) | (with_reducible assumption) | (with_reducible refine b_alloc ?_) | (with_reducible refine b_drew ?_) | (with_reducible refine b_drewN ?_) | (with_reducible refine b_set ?_ (by first | (simp; done) | (dsimp only; omega))) | (with_reducible refine b_call ?_ (by assumption))))⟩
    · go_enter Tryd.func55, Tryd.ntmps55
      go_wp2
      go_ret
      exact ⟨by simp [Ck.left, Ck.of, hq], by (repeat (first | (with_reducible exact Below.refl _ _) | (with_reducible assumption) | (with_reducible refine b_alloc ?_) | (with_reducible refine b_drew ?_) | (with_reducible refine b_drewN ?_) | (with_reducible refine b_set ?_ (by first | (simp; done) | (dsimp only; omega))) | (with_reducible refine b_call ?_ (by assumption))))⟩
theorem CkAt.put3 {w : World} {g : Nat} {c : Ck} (h : CkAt w g c) (a b t : Int) :
    CkAt (((w.setCell ⟨g, 5, none⟩ (.int .i64 a)).setCell ⟨g, 6, none⟩ (.int .i64 b)).setCell ⟨g, 10, none⟩ (.int .i64 t)) g { c with l0 := a, l1 := b, now := t } := by
  obtain ⟨c0, c1, c2, c3, c4, c5, c6, c7, c8, c9, c10, c11, cf, cz⟩ := h
  constructor <;> simp [go_sem, *]
theorem CkAt.putTeam {w : World} {g : Nat} {c : Ck} (h : CkAt w g c) (a : Int) : CkAt (w.setCell ⟨g, 9, none⟩ (.int .i64 a)) g { c with team := a } := by
  obtain ⟨c0, c1, c2, c3, c4, c5, c6, c7, c8, c9, c10, c11, cf, cz⟩ := h
  constructor <;> simp [go_sem, *]
set_option maxHeartbeats 2000000 in
set_option maxRecDepth 100000 in
theorem pass_any (g : Nat) (c : Ck) (t : Int) (w : World) (h : CkAt w g c) (hok : c.Ok) (hb : 0 ≤ t ∧ t ≤ 1073741824) :
    Calls Tryd.prog 56 #[.pointer (some ⟨g, 0, none⟩), .int .i64 t] w fun e w' => e = .returned (.tuple #[]) ∧ CkAt w' g (c.passed t) ∧ OnlyAt w w' g := by
  have hz := h.z
  go_enter Tryd.func56, Tryd.ntmps56
  go_wp2_with (go_at_call 55; refine (cat_any g c _ t _ h hok (by first | exact .inl rfl | exact .inr rfl) hb).mono ?_; rintro e w1 ⟨rfl, hb1⟩; have h := h.below hb1 h.z; have hz := hb1.size; have hh := h; obtain ⟨c0, c1, c2, c3, c4, c5, c6, c7, c8, c9, c10, c11, cf, cz⟩ := hh)
  first | go_end0 | refine bodyPost_ret (results_none rfl _ _ _) rfl ?_
  exact ⟨rfl, h.put3 _ _ _, by (repeat (first | (with_reducible exact n_refl) | (with_reducible assumption) | (with_reducible refine n_alloc ?_) | (with_reducible refine n_drew ?_) | (with_reducible refine n_drewN ?_) | (with_reducible refine n_set ?_ (by first | (simp; done) | (dsimp only; omega))) | (with_reducible refine n_trans ?_ (by assumption)) | (with_reducible refine n_call ?_ (by assumption))))⟩
end Go.Proofs.YtenofigclkbbiaaDoor
