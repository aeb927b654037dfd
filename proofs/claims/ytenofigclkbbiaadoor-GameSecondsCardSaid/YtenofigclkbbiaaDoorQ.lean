/-
  The clock of the program: extra seconds.
-/
import Derived.Test.YtenofigclkbbiaaDoorO
set_option linter.unusedVariables false
set_option linter.unusedSimpArgs false
namespace Go.Proofs.YtenofigclkbbiaaDoor
open Go.RowKit
open Game
theorem CkAt.putL0 {w : World} {g : Nat} {c : Ck} (h : CkAt w g c) (a : Int) : CkAt (w.setCell ⟨g, 5, none⟩ (.int .i64 a)) g { c with l0 := a } := by
  obtain ⟨c0, c1, c2, c3, c4, c5, c6, c7, c8, c9, c10, c11, cf, cz⟩ := h
  constructor <;> simp [go_sem, *]
theorem CkAt.putL1 {w : World} {g : Nat} {c : Ck} (h : CkAt w g c) (a : Int) : CkAt (w.setCell ⟨g, 6, none⟩ (.int .i64 a)) g { c with l1 := a } := by
  obtain ⟨c0, c1, c2, c3, c4, c5, c6, c7, c8, c9, c10, c11, cf, cz⟩ := h
  constructor <;> simp [go_sem, *]
theorem Extra_1 (g : Nat) (c : Ck) (t : Int) (w : World) (h : CkAt w g c) (hw : c.wrong 0 t ≠ 0 ∨ c.team ≠ -1) :
    Calls Tryd.prog 28 #[.pointer (some ⟨g, 0, none⟩), .int .i64 t] w (Turned w g (c.extra t)) := by
  have hwr := wrong_any g c 0 t w h
  have hz := h.z
  have hC := h
  obtain ⟨c0, c1, c2, c3, c4, c5, c6, c7, c8, c9, c10, c11, cf, cz⟩ := hC
  by_cases hw1 : c.wrong 0 t = 0
  · have ht : c.team ≠ -1 := by rcases hw with h | h; exact absurd hw1 h; exact h
    have hs : c.extra t = (c, 9) := by simp [Ck.extra, hw1, ht]
    rw [hw1] at hwr
    rw [hs]
    clear hw hw1 hs
    go_enter Tryd.func28, Tryd.ntmps28
    go_wp2_with (go_at_call 54; refine hwr.mono ?_; rintro e w' ⟨rfl, rfl⟩)
    go_ret
    exact ⟨rfl, h, by (repeat (first | (with_reducible exact n_refl) | (with_reducible assumption) | (with_reducible refine n_alloc ?_) | (with_reducible refine n_drew ?_) | (with_reducible refine n_drewN ?_) | (with_reducible refine n_set ?_ (by first | (simp; done) | (dsimp only; omega))) | (with_reducible refine n_trans ?_ (by assumption)) | (with_reducible refine n_call ?_ (by assumption))))⟩
  · have hs : c.extra t = (c, c.wrong 0 t) := by simp [Ck.extra, hw1]
    have hne : (c.wrong 0 t != 0) = true := by simpa using hw1
    rw [hs]
    clear hw hw1 hs
    go_enter Tryd.func28, Tryd.ntmps28
    go_wp2_with (go_at_call 54; refine hwr.mono ?_; rintro e w' ⟨rfl, rfl⟩)
    go_ret
    exact ⟨rfl, h, by (repeat (first | (with_reducible exact n_refl) | (with_reducible assumption) | (with_reducible refine n_alloc ?_) | (with_reducible refine n_drew ?_) | (with_reducible refine n_drewN ?_) | (with_reducible refine n_set ?_ (by first | (simp; done) | (dsimp only; omega))) | (with_reducible refine n_trans ?_ (by assumption)) | (with_reducible refine n_call ?_ (by assumption))))⟩
theorem left_le {c : Ck} {team t : Int} (hok : c.Ok) : 0 ≤ c.left team t ∧ c.left team t ≤ 1099511627776 := by
  obtain ⟨h1, h2, h3, h4⟩ := hok
  unfold Ck.left Ck.of
  split <;> split <;> omega
set_option maxHeartbeats 2000000 in
set_option maxRecDepth 100000 in
theorem Extra_2 (g : Nat) (c : Ck) (t : Int) (w : World) (h : CkAt w g c) (hok : c.Ok) (he : 0 ≤ c.ext ∧ c.ext ≤ 100000) (hw : c.wrong 0 t = 0) (ht : c.team = -1) :
    Calls Tryd.prog 28 #[.pointer (some ⟨g, 0, none⟩), .int .i64 t] w (Turned w g (c.extra t)) := by
  have hwr := wrong_any g c 0 t w h
  have hz := h.z
  have c9 := h.c9
  obtain ⟨_, h2, h3⟩ := Ck.wrong_0 hw
  have hbb : 0 ≤ t ∧ t ≤ 1073741824 := ⟨by have := hok.now; omega, h3⟩
  have hps := pass_any g c t w h hok hbb
  have hs : c.extra t = (c.more t, 0) := by simp [Ck.extra, hw, ht]
  rw [hw] at hwr
  rw [ht] at c9
  rw [hs]
  have hl0 := left_le (team := 0) (t := t) hok
  have hl1 := left_le (team := 1) (t := t) hok
  clear hw hs ht
  go_enter Tryd.func28, Tryd.ntmps28
  go_wp2_with (first
    | (go_at_call 54; refine hwr.mono ?_; rintro e w' ⟨rfl, rfl⟩)
    | (go_at_call 56; refine hps.mono ?_; rintro e w1 ⟨rfl, h1, ho1⟩))
  clear c9 hwr hps
  go_loopw [23] (fun i wr => ∃ k : Nat, k ≤ 2 ∧ i = .int .i64 k ∧ CkAt wr g { c.passed t with l0 := c.left 0 t + (if k = 0 then 0 else c.ext), l1 := c.left 1 t + (if k = 2 then c.ext else 0) } ∧ OnlyAt w wr g)
    (fun i _ => 2 - (intOf i).toNat)
  case atStart => exact ⟨0, by omega, rfl, by simpa [Ck.passed] using h1, ho1⟩
  case round =>
    clear h1 ho1
    obtain ⟨k, hk, rfl, hC, hO⟩ := hrel
    have hD := hC
    obtain ⟨e0, e1, e2, e3, e4, e5, e6, e7, e8, e9, e10, e11, ef, ez⟩ := hD
    have hkk : k = 0 ∨ k = 1 ∨ k = 2 := by omega
    rcases hkk with rfl | rfl | rfl
    · simp [Ck.passed] at e1 e5 e6
      go_wp2
      go_region
      all_goals go_wp2
      all_goals go_roundw
      case rel => exact ⟨1, by omega, rfl, by simpa [Ck.passed] using (hC.putL0 (c.left 0 t + c.ext)).drew, by (repeat (first | (with_reducible exact n_refl) | (with_reducible assumption) | (with_reducible refine n_alloc ?_) | (with_reducible refine n_drew ?_) | (with_reducible refine n_drewN ?_) | (with_reducible refine n_set ?_ (by first | (simp; done) | (dsimp only; omega))) | (with_reducible refine n_trans ?_ (by assumption)) | (with_reducible refine n_call ?_ (by assumption))))⟩
      case measure => simp [intOf]
    · simp [Ck.passed] at e1 e5 e6
      go_wp2
      go_region
      all_goals go_wp2
      all_goals go_roundw
      case rel => exact ⟨2, by omega, rfl, by simpa [Ck.passed] using (hC.putL1 (c.left 1 t + c.ext)).drew, by (repeat (first | (with_reducible exact n_refl) | (with_reducible assumption) | (with_reducible refine n_alloc ?_) | (with_reducible refine n_drew ?_) | (with_reducible refine n_drewN ?_) | (with_reducible refine n_set ?_ (by first | (simp; done) | (dsimp only; omega))) | (with_reducible refine n_trans ?_ (by assumption)) | (with_reducible refine n_call ?_ (by assumption))))⟩
      case measure => simp [intOf]
    · go_wp2
      go_ret
      exact ⟨rfl, by simpa [Ck.more, Ck.passed] using hC, hO⟩
theorem Extra_any (g : Nat) (c : Ck) (t : Int) (w : World) (h : CkAt w g c) (hok : c.Ok) (he : 0 ≤ c.ext ∧ c.ext ≤ 100000) :
    Calls Tryd.prog 28 #[.pointer (some ⟨g, 0, none⟩), .int .i64 t] w (Turned w g (c.extra t)) := by
  by_cases hw : c.wrong 0 t = 0
  · by_cases ht : c.team = -1
    · exact Extra_2 g c t w h hok he hw ht
    · exact Extra_1 g c t w h (.inr ht)
  · exact Extra_1 g c t w h (.inl hw)
end Go.Proofs.YtenofigclkbbiaaDoor
