/-
  The clock of the program: time-outs, extra seconds.
-/
import Derived.Test.YtenofigclkbbiaaDoorN
set_option linter.unusedVariables false
set_option linter.unusedSimpArgs false
namespace Go.Proofs.YtenofigclkbbiaaDoor
namespace Game
/-- A time-out behind the passing of time. -/
def Ck.outed (c : Ck) (team t : Int) : Ck :=
  { c.passed t with o0 := if team = 0 then c.o0 - 1 else c.o0, o1 := if team = 0 then c.o1 else c.o1 - 1, til := t + c.len }
def Ck.out (c : Ck) (team t : Int) : Ck × Int :=
  if c.wrong team t ≠ 0 then (c, c.wrong team t) else if c.team ≠ team ∨ t < c.til then (c, 9) else if c.outsOf team = 0 then (c, 7) else (c.outed team t, 0)
def Ck.more (c : Ck) (t : Int) : Ck := { c.passed t with l0 := (c.passed t).l0 + c.ext, l1 := (c.passed t).l1 + c.ext }
def Ck.extra (c : Ck) (t : Int) : Ck × Int :=
  if c.wrong 0 t ≠ 0 then (c, c.wrong 0 t) else if c.team ≠ -1 then (c, 9) else (c.more t, 0)
end Game
open Go.RowKit
open Game
theorem cOuts_any (g : Nat) (c : Ck) (team : Int) (w : World) (h : CkAt w g c) :
    Calls Tryd.prog 38 #[.pointer (some ⟨g, 0, none⟩), .int .i64 team] w fun e w' => e = .returned (.tuple #[.int .i64 (if wi team 0 1 = true then c.outsOf team else 0), .int .i64 (if wi team 0 1 = true then 0 else 2)]) ∧ Below w.heap.size w w' := by
  have hC := h
  obtain ⟨c0, c1, c2, c3, c4, c5, c6, c7, c8, c9, c10, c11, cf, cz⟩ := hC
  by_cases hw : wi team 0 1 = true
  · have h1 : team = 0 ∨ team = 1 := by simp [wi] at hw; omega
    rw [if_pos hw, if_pos hw]
    rcases h1 with rfl | rfl
    · go_enter Tryd.func38, Tryd.ntmps38
      go_wp2_with (first
        | (go_at_call 53; refine (is_any g c _ h).mono ?_; rintro e w' ⟨rfl, rfl⟩)
        | (go_at_call 39; refine (within_any _ _ _ _).mono ?_; rintro e w' ⟨rfl, rfl⟩))
      go_ret2
      exact ⟨by simp [Ck.outsOf], by (repeat (first | (with_reducible exact Below.refl _ _) | (with_reducible assumption) | (with_reducible refine b_alloc ?_) | (with_reducible refine b_drew ?_) | (with_reducible refine b_drewN ?_) | (with_reducible refine b_set ?_ (by first | (simp; done) | (dsimp only; omega))) | (with_reducible refine b_call ?_ (by assumption))))⟩
    · go_enter Tryd.func38, Tryd.ntmps38
      go_wp2_with (first
        | (go_at_call 53; refine (is_any g c _ h).mono ?_; rintro e w' ⟨rfl, rfl⟩)
        | (go_at_call 39; refine (within_any _ _ _ _).mono ?_; rintro e w' ⟨rfl, rfl⟩))
      go_ret2
      exact ⟨by simp [Ck.outsOf], by (repeat (first | (with_reducible exact Below.refl _ _) | (with_reducible assumption) | (with_reducible refine b_alloc ?_) | (with_reducible refine b_drew ?_) | (with_reducible refine b_drewN ?_) | (with_reducible refine b_set ?_ (by first | (simp; done) | (dsimp only; omega))) | (with_reducible refine b_call ?_ (by assumption))))⟩
  · have hw' := Bool.eq_false_iff.2 hw
    rw [if_neg hw, if_neg hw]
    go_enter Tryd.func38, Tryd.ntmps38
    go_wp2_with (first
      | (go_at_call 53; refine (is_any g c _ h).mono ?_; rintro e w' ⟨rfl, rfl⟩)
      | (go_at_call 39; refine (within_any _ _ _ _).mono ?_; rintro e w' ⟨rfl, rfl⟩))
    go_ret2
    exact ⟨rfl, by (repeat (first | (with_reducible exact Below.refl _ _) | (with_reducible assumption) | (with_reducible refine b_alloc ?_) | (with_reducible refine b_drew ?_) | (with_reducible refine b_drewN ?_) | (with_reducible refine b_set ?_ (by first | (simp; done) | (dsimp only; omega))) | (with_reducible refine b_call ?_ (by assumption))))⟩
theorem CkAt.putOut0 {w : World} {g : Nat} {c : Ck} (h : CkAt w g c) (a b : Int) : CkAt ((w.setCell ⟨g, 7, none⟩ (.int .i64 a)).setCell ⟨g, 11, none⟩ (.int .i64 b)) g { c with o0 := a, til := b } := by
  obtain ⟨c0, c1, c2, c3, c4, c5, c6, c7, c8, c9, c10, c11, cf, cz⟩ := h
  constructor <;> simp [go_sem, *]
theorem CkAt.putOut1 {w : World} {g : Nat} {c : Ck} (h : CkAt w g c) (a b : Int) : CkAt ((w.setCell ⟨g, 8, none⟩ (.int .i64 a)).setCell ⟨g, 11, none⟩ (.int .i64 b)) g { c with o1 := a, til := b } := by
  obtain ⟨c0, c1, c2, c3, c4, c5, c6, c7, c8, c9, c10, c11, cf, cz⟩ := h
  constructor <;> simp [go_sem, *]
theorem CkAt.drew {w : World} {g : Nat} {c : Ck} (h : CkAt w g c) : CkAt w.drew g c := h.kept rfl h.z
set_option maxHeartbeats 2000000 in
set_option maxRecDepth 100000 in
theorem Out_any (g : Nat) (c : Ck) (team t : Int) (w : World) (h : CkAt w g c) (hok : c.Ok) (hl : 0 ≤ c.len ∧ c.len ≤ 100000) (hoo : (0 ≤ c.o0 ∧ c.o0 ≤ 10) ∧ (0 ≤ c.o1 ∧ c.o1 ≤ 10)) :
    Calls Tryd.prog 27 #[.pointer (some ⟨g, 0, none⟩), .int .i64 team, .int .i64 t] w (Turned w g (c.out team t)) := by
  have hwr := wrong_any g c team t w h
  have hz := h.z
  have hC := h
  obtain ⟨c0, c1, c2, c3, c4, c5, c6, c7, c8, c9, c10, c11, cf, cz⟩ := hC
  by_cases hw : c.wrong team t = 0
  · obtain ⟨h1, h2, h3⟩ := Ck.wrong_0 hw
    have hbb : 0 ≤ t ∧ t ≤ 1073741824 := ⟨by have := hok.now; omega, h3⟩
    by_cases ht : c.team = team
    · rw [ht] at c9
      by_cases hti : t < c.til
      · have hs : c.out team t = (c, 9) := by simp [Ck.out, hw, hti]
        rw [hw] at hwr
        rw [hs]
        clear hw hs
        go_enter Tryd.func27, Tryd.ntmps27
        go_wp2_with (go_at_call 54; refine hwr.mono ?_; rintro e w' ⟨rfl, rfl⟩)
        go_ret
        exact ⟨rfl, h, by (repeat (first | (with_reducible exact n_refl) | (with_reducible assumption) | (with_reducible refine n_alloc ?_) | (with_reducible refine n_drew ?_) | (with_reducible refine n_drewN ?_) | (with_reducible refine n_set ?_ (by first | (simp; done) | (dsimp only; omega))) | (with_reducible refine n_trans ?_ (by assumption)) | (with_reducible refine n_call ?_ (by assumption))))⟩
      · by_cases ho : c.outsOf team = 0
        · have hs : c.out team t = (c, 7) := by simp [Ck.out, hw, ht, hti, ho]
          rw [hw] at hwr
          rw [hs]
          clear hw hs
          rcases h1 with rfl | rfl
          · replace ho : c.o0 = 0 := by simpa [Ck.outsOf] using ho
            rw [ho] at c7
            go_enter Tryd.func27, Tryd.ntmps27
            go_wp2_with (go_at_call 54; refine hwr.mono ?_; rintro e w' ⟨rfl, rfl⟩)
            go_ret
            exact ⟨rfl, h, by (repeat (first | (with_reducible exact n_refl) | (with_reducible assumption) | (with_reducible refine n_alloc ?_) | (with_reducible refine n_drew ?_) | (with_reducible refine n_drewN ?_) | (with_reducible refine n_set ?_ (by first | (simp; done) | (dsimp only; omega))) | (with_reducible refine n_trans ?_ (by assumption)) | (with_reducible refine n_call ?_ (by assumption))))⟩
          · replace ho : c.o1 = 0 := by simpa [Ck.outsOf] using ho
            rw [ho] at c8
            go_enter Tryd.func27, Tryd.ntmps27
            go_wp2_with (go_at_call 54; refine hwr.mono ?_; rintro e w' ⟨rfl, rfl⟩)
            go_ret
            exact ⟨rfl, h, by (repeat (first | (with_reducible exact n_refl) | (with_reducible assumption) | (with_reducible refine n_alloc ?_) | (with_reducible refine n_drew ?_) | (with_reducible refine n_drewN ?_) | (with_reducible refine n_set ?_ (by first | (simp; done) | (dsimp only; omega))) | (with_reducible refine n_trans ?_ (by assumption)) | (with_reducible refine n_call ?_ (by assumption))))⟩
        · have hs : c.out team t = (c.outed team t, 0) := by simp [Ck.out, hw, ht, hti, ho]
          have hps := pass_any g c t w h hok hbb
          rw [hw] at hwr
          rw [hs]
          clear hw hs
          rcases h1 with rfl | rfl
          · replace ho : ¬ c.o0 = 0 := by simpa [Ck.outsOf] using ho
            go_enter Tryd.func27, Tryd.ntmps27
            go_wp2_with (first
              | (go_at_call 54; refine hwr.mono ?_; rintro e w' ⟨rfl, rfl⟩)
              | (go_at_call 56; refine hps.mono ?_; rintro e w1 ⟨rfl, h1, ho1⟩; have hh1 := h1; obtain ⟨e0, e1, e2, e3, e4, e5, e6, e7, e8, e9, e10, e11, ef, ez⟩ := hh1; simp only [Ck.passed] at e0 e1 e2 e3 e4 e5 e6 e7 e8 e9 e10 e11))
            go_region
            all_goals go_wp2
            all_goals
              go_ret
              exact ⟨rfl, h1.drew.putOut0 _ _, by (repeat (first | (with_reducible exact n_refl) | (with_reducible assumption) | (with_reducible refine n_alloc ?_) | (with_reducible refine n_drew ?_) | (with_reducible refine n_drewN ?_) | (with_reducible refine n_set ?_ (by first | (simp; done) | (dsimp only; omega))) | (with_reducible refine n_trans ?_ (by assumption)) | (with_reducible refine n_call ?_ (by assumption))))⟩
          · replace ho : ¬ c.o1 = 0 := by simpa [Ck.outsOf] using ho
            go_enter Tryd.func27, Tryd.ntmps27
            go_wp2_with (first
              | (go_at_call 54; refine hwr.mono ?_; rintro e w' ⟨rfl, rfl⟩)
              | (go_at_call 56; refine hps.mono ?_; rintro e w1 ⟨rfl, h1, ho1⟩; have hh1 := h1; obtain ⟨e0, e1, e2, e3, e4, e5, e6, e7, e8, e9, e10, e11, ef, ez⟩ := hh1; simp only [Ck.passed] at e0 e1 e2 e3 e4 e5 e6 e7 e8 e9 e10 e11))
            go_region
            all_goals go_wp2
            all_goals
              go_ret
              exact ⟨rfl, h1.drew.putOut1 _ _, by (repeat (first | (with_reducible exact n_refl) | (with_reducible assumption) | (with_reducible refine n_alloc ?_) | (with_reducible refine n_drew ?_) | (with_reducible refine n_drewN ?_) | (with_reducible refine n_set ?_ (by first | (simp; done) | (dsimp only; omega))) | (with_reducible refine n_trans ?_ (by assumption)) | (with_reducible refine n_call ?_ (by assumption))))⟩
    · have hs : c.out team t = (c, 9) := by simp [Ck.out, hw, ht]
      rw [hw] at hwr
      rw [hs]
      clear hw hs
      go_enter Tryd.func27, Tryd.ntmps27
      go_wp2_with (go_at_call 54; refine hwr.mono ?_; rintro e w' ⟨rfl, rfl⟩)
      go_ret
      exact ⟨rfl, h, by (repeat (first | (with_reducible exact n_refl) | (with_reducible assumption) | (with_reducible refine n_alloc ?_) | (with_reducible refine n_drew ?_) | (with_reducible refine n_drewN ?_) | (with_reducible refine n_set ?_ (by first | (simp; done) | (dsimp only; omega))) | (with_reducible refine n_trans ?_ (by assumption)) | (with_reducible refine n_call ?_ (by assumption))))⟩
  · have hs : c.out team t = (c, c.wrong team t) := by simp [Ck.out, hw]
    have hne : (c.wrong team t != 0) = true := by simpa using hw
    rw [hs]
    clear hw hs
    go_enter Tryd.func27, Tryd.ntmps27
    go_wp2_with (go_at_call 54; refine hwr.mono ?_; rintro e w' ⟨rfl, rfl⟩)
    go_ret
    exact ⟨rfl, h, by (repeat (first | (with_reducible exact n_refl) | (with_reducible assumption) | (with_reducible refine n_alloc ?_) | (with_reducible refine n_drew ?_) | (with_reducible refine n_drewN ?_) | (with_reducible refine n_set ?_ (by first | (simp; done) | (dsimp only; omega))) | (with_reducible refine n_trans ?_ (by assumption)) | (with_reducible refine n_call ?_ (by assumption))))⟩
end Go.Proofs.YtenofigclkbbiaaDoor
