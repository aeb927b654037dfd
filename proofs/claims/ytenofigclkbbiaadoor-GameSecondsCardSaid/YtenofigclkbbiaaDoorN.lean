/-
  The clock of the program: the calls that turn it.
-/
import Derived.Test.YtenofigclkbbiaaDoorM
set_option linter.unusedVariables false
set_option linter.unusedSimpArgs false
namespace Go.Proofs.YtenofigclkbbiaaDoor
open Go.RowKit
open Game
/-- What a call of a clock leaves. -/
def Turned (w : World) (g : Nat) (r : Ck × Int) (e : Ending) (w' : World) : Prop := e = .returned (.int .i64 r.2) ∧ CkAt w' g r.1 ∧ OnlyAt w w' g
theorem Start_any (g : Nat) (c : Ck) (team t : Int) (w : World) (h : CkAt w g c) (hok : c.Ok) :
    Calls Tryd.prog 25 #[.pointer (some ⟨g, 0, none⟩), .int .i64 team, .int .i64 t] w (Turned w g (c.start team t)) := by
  have hwr := wrong_any g c team t w h
  have hz := h.z
  have hC := h
  obtain ⟨c0, c1, c2, c3, c4, c5, c6, c7, c8, c9, c10, c11, cf, cz⟩ := hC
  by_cases hw : c.wrong team t = 0
  · obtain ⟨h1, h2, h3⟩ := Ck.wrong_0 hw
    have hbb : 0 ≤ t ∧ t ≤ 1073741824 := ⟨by have := hok.now; omega, h3⟩
    by_cases ht : c.team = -1
    · by_cases ho : c.of team = 0
      · have hs : c.start team t = (c, 7) := by simp [Ck.start, hw, ht, ho]
        rw [hw] at hwr
        rw [hs]
        rw [ht] at c9
        clear hw hs
        rcases h1 with rfl | rfl
        · replace ho : c.l0 = 0 := by simpa [Ck.of] using ho
          rw [ho] at c5
          go_enter Tryd.func25, Tryd.ntmps25
          go_wp2_with (go_at_call 54; refine hwr.mono ?_; rintro e w' ⟨rfl, rfl⟩)
          go_ret
          exact ⟨rfl, h, by (repeat (first | (with_reducible exact n_refl) | (with_reducible assumption) | (with_reducible refine n_alloc ?_) | (with_reducible refine n_drew ?_) | (with_reducible refine n_drewN ?_) | (with_reducible refine n_set ?_ (by first | (simp; done) | (dsimp only; omega))) | (with_reducible refine n_trans ?_ (by assumption)) | (with_reducible refine n_call ?_ (by assumption))))⟩
        · replace ho : c.l1 = 0 := by simpa [Ck.of] using ho
          rw [ho] at c6
          go_enter Tryd.func25, Tryd.ntmps25
          go_wp2_with (go_at_call 54; refine hwr.mono ?_; rintro e w' ⟨rfl, rfl⟩)
          go_ret
          exact ⟨rfl, h, by (repeat (first | (with_reducible exact n_refl) | (with_reducible assumption) | (with_reducible refine n_alloc ?_) | (with_reducible refine n_drew ?_) | (with_reducible refine n_drewN ?_) | (with_reducible refine n_set ?_ (by first | (simp; done) | (dsimp only; omega))) | (with_reducible refine n_trans ?_ (by assumption)) | (with_reducible refine n_call ?_ (by assumption))))⟩
      · have hs : c.start team t = ({ c.passed t with team := team }, 0) := by simp [Ck.start, hw, ht, ho]
        have hps := pass_any g c t w h hok hbb
        rw [hw] at hwr
        rw [hs]
        rw [ht] at c9
        clear hw hs
        rcases h1 with rfl | rfl
        · replace ho : ¬ c.l0 = 0 := by simpa [Ck.of] using ho
          go_enter Tryd.func25, Tryd.ntmps25
          go_wp2_with (first
            | (go_at_call 54; refine hwr.mono ?_; rintro e w' ⟨rfl, rfl⟩)
            | (go_at_call 56; refine hps.mono ?_; rintro e w1 ⟨rfl, h1, ho1⟩; have hz1 := h1.z; have hf1 := h1.f; have e9 := h1.c9))
          go_ret
          exact ⟨rfl, h1.putTeam 0, by (repeat (first | (with_reducible exact n_refl) | (with_reducible assumption) | (with_reducible refine n_alloc ?_) | (with_reducible refine n_drew ?_) | (with_reducible refine n_drewN ?_) | (with_reducible refine n_set ?_ (by first | (simp; done) | (dsimp only; omega))) | (with_reducible refine n_trans ?_ (by assumption)) | (with_reducible refine n_call ?_ (by assumption))))⟩
        · replace ho : ¬ c.l1 = 0 := by simpa [Ck.of] using ho
          go_enter Tryd.func25, Tryd.ntmps25
          go_wp2_with (first
            | (go_at_call 54; refine hwr.mono ?_; rintro e w' ⟨rfl, rfl⟩)
            | (go_at_call 56; refine hps.mono ?_; rintro e w1 ⟨rfl, h1, ho1⟩; have hz1 := h1.z; have hf1 := h1.f; have e9 := h1.c9))
          go_ret
          exact ⟨rfl, h1.putTeam 1, by (repeat (first | (with_reducible exact n_refl) | (with_reducible assumption) | (with_reducible refine n_alloc ?_) | (with_reducible refine n_drew ?_) | (with_reducible refine n_drewN ?_) | (with_reducible refine n_set ?_ (by first | (simp; done) | (dsimp only; omega))) | (with_reducible refine n_trans ?_ (by assumption)) | (with_reducible refine n_call ?_ (by assumption))))⟩
    · have hs : c.start team t = (c, 9) := by simp [Ck.start, hw, ht]
      rw [hw] at hwr
      rw [hs]
      clear hw hs
      go_enter Tryd.func25, Tryd.ntmps25
      go_wp2_with (go_at_call 54; refine hwr.mono ?_; rintro e w' ⟨rfl, rfl⟩)
      go_ret
      exact ⟨rfl, h, by (repeat (first | (with_reducible exact n_refl) | (with_reducible assumption) | (with_reducible refine n_alloc ?_) | (with_reducible refine n_drew ?_) | (with_reducible refine n_drewN ?_) | (with_reducible refine n_set ?_ (by first | (simp; done) | (dsimp only; omega))) | (with_reducible refine n_trans ?_ (by assumption)) | (with_reducible refine n_call ?_ (by assumption))))⟩
  · have hs : c.start team t = (c, c.wrong team t) := by simp [Ck.start, hw]
    have hne : (c.wrong team t != 0) = true := by simpa using hw
    rw [hs]
    clear hw hs
    go_enter Tryd.func25, Tryd.ntmps25
    go_wp2_with (go_at_call 54; refine hwr.mono ?_; rintro e w' ⟨rfl, rfl⟩)
    go_ret
    exact ⟨rfl, h, by (repeat (first | (with_reducible exact n_refl) | (with_reducible assumption) | (with_reducible refine n_alloc ?_) | (with_reducible refine n_drew ?_) | (with_reducible refine n_drewN ?_) | (with_reducible refine n_set ?_ (by first | (simp; done) | (dsimp only; omega))) | (with_reducible refine n_trans ?_ (by assumption)) | (with_reducible refine n_call ?_ (by assumption))))⟩
theorem Stop_any (g : Nat) (c : Ck) (t : Int) (w : World) (h : CkAt w g c) (hok : c.Ok) :
    Calls Tryd.prog 26 #[.pointer (some ⟨g, 0, none⟩), .int .i64 t] w (Turned w g (c.stop t)) := by
  have hwr := wrong_any g c 0 t w h
  have hz := h.z
  have hC := h
  obtain ⟨c0, c1, c2, c3, c4, c5, c6, c7, c8, c9, c10, c11, cf, cz⟩ := hC
  by_cases hw : c.wrong 0 t = 0
  · obtain ⟨h1, h2, h3⟩ := Ck.wrong_0 hw
    have hbb : 0 ≤ t ∧ t ≤ 1073741824 := ⟨by have := hok.now; omega, h3⟩
    by_cases ht : c.team = -1
    · have hs : c.stop t = (c, 9) := by simp [Ck.stop, hw, ht]
      rw [hw] at hwr
      rw [hs]
      rw [ht] at c9
      clear hw hs h1
      go_enter Tryd.func26, Tryd.ntmps26
      go_wp2_with (go_at_call 54; refine hwr.mono ?_; rintro e w' ⟨rfl, rfl⟩)
      go_ret
      exact ⟨rfl, h, by (repeat (first | (with_reducible exact n_refl) | (with_reducible assumption) | (with_reducible refine n_alloc ?_) | (with_reducible refine n_drew ?_) | (with_reducible refine n_drewN ?_) | (with_reducible refine n_set ?_ (by first | (simp; done) | (dsimp only; omega))) | (with_reducible refine n_trans ?_ (by assumption)) | (with_reducible refine n_call ?_ (by assumption))))⟩
    · have hs : c.stop t = ({ c.passed t with team := -1 }, 0) := by simp [Ck.stop, hw, ht]
      have hps := pass_any g c t w h hok hbb
      rw [hw] at hwr
      rw [hs]
      clear hw hs h1
      go_enter Tryd.func26, Tryd.ntmps26
      go_wp2_with (first
        | (go_at_call 54; refine hwr.mono ?_; rintro e w' ⟨rfl, rfl⟩)
        | (go_at_call 56; refine hps.mono ?_; rintro e w1 ⟨rfl, h1, ho1⟩; have hz1 := h1.z; have hf1 := h1.f; have e9 := h1.c9))
      go_ret
      exact ⟨rfl, h1.putTeam (-1), by (repeat (first | (with_reducible exact n_refl) | (with_reducible assumption) | (with_reducible refine n_alloc ?_) | (with_reducible refine n_drew ?_) | (with_reducible refine n_drewN ?_) | (with_reducible refine n_set ?_ (by first | (simp; done) | (dsimp only; omega))) | (with_reducible refine n_trans ?_ (by assumption)) | (with_reducible refine n_call ?_ (by assumption))))⟩
  · have hs : c.stop t = (c, c.wrong 0 t) := by simp [Ck.stop, hw]
    have hne : (c.wrong 0 t != 0) = true := by simpa using hw
    rw [hs]
    clear hw hs
    go_enter Tryd.func26, Tryd.ntmps26
    go_wp2_with (go_at_call 54; refine hwr.mono ?_; rintro e w' ⟨rfl, rfl⟩)
    go_ret
    exact ⟨rfl, h, by (repeat (first | (with_reducible exact n_refl) | (with_reducible assumption) | (with_reducible refine n_alloc ?_) | (with_reducible refine n_drew ?_) | (with_reducible refine n_drewN ?_) | (with_reducible refine n_set ?_ (by first | (simp; done) | (dsimp only; omega))) | (with_reducible refine n_trans ?_ (by assumption)) | (with_reducible refine n_call ?_ (by assumption))))⟩
end Go.Proofs.YtenofigclkbbiaaDoor
