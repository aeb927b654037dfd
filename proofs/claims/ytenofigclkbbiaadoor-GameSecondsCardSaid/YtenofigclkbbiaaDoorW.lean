/-
  The clock of the reference: its calls.
-/
import Derived.Test.YtenofigclkbbiaaDoorS
import Derived.Test.YtenofigclkbbiaaDoorQ
import Derived.Deep.DeepCutAuto
import Derived.Deep.CutBlock
set_option linter.unusedVariables false
set_option linter.unusedSimpArgs false
namespace Go.Proofs.YtenofigclkbbiaaDoor
open Go.RowKit
open Game
/-- A clock of the reference's in a block of its own. -/
def RcAt (w : World) (g : Nat) (c : Ck) : Prop := w.heap[g]? = some (.cells #[.int .i64 c.tot, .int .i64 c.ext, .int .i64 c.outs, .int .i64 c.len, .int .i64 c.l0, .int .i64 c.l1, .int .i64 c.o0, .int .i64 c.o1, .int .i64 c.now, .int .i64 c.team, .int .i64 c.til] 64 (0, 0))
theorem RcAt.cells {w : World} {g : Nat} {c : Ck} (h : RcAt w g c) : w.cell? ⟨g, 0, none⟩ = some (.int .i64 c.tot) ∧ w.cell? ⟨g, 1, none⟩ = some (.int .i64 c.ext) ∧ w.cell? ⟨g, 2, none⟩ = some (.int .i64 c.outs) ∧ w.cell? ⟨g, 3, none⟩ = some (.int .i64 c.len) ∧
    w.cell? ⟨g, 4, none⟩ = some (.int .i64 c.l0) ∧ w.cell? ⟨g, 5, none⟩ = some (.int .i64 c.l1) ∧ w.cell? ⟨g, 6, none⟩ = some (.int .i64 c.o0) ∧ w.cell? ⟨g, 7, none⟩ = some (.int .i64 c.o1) ∧ w.cell? ⟨g, 8, none⟩ = some (.int .i64 c.now) ∧
    w.cell? ⟨g, 9, none⟩ = some (.int .i64 c.team) ∧ w.cell? ⟨g, 10, none⟩ = some (.int .i64 c.til) ∧ (∀ o, w.frozen? ⟨g, o, none⟩ = false) ∧ g < w.heap.size := by
  have hl := (Array.getElem?_eq_some_iff.1 h).1
  unfold RcAt at h
  refine ⟨?_, ?_, ?_, ?_, ?_, ?_, ?_, ?_, ?_, ?_, ?_, ?_, hl⟩ <;> simp [World.cell?, World.frozen?, h]
theorem RcAt.kept {w W : World} {g : Nat} {c : Ck} (h : RcAt w g c) (hb : W.heap[g]? = w.heap[g]?) : RcAt W g c := hb.trans h
theorem RcAt.below {w W : World} {g : Nat} {c : Ck} (h : RcAt w g c) (hb : Below w.heap.size w W) : RcAt W g c := h.kept (hb.block g (Array.getElem?_eq_some_iff.1 h).1)
theorem RcAt.store {w : World} {g : Nat} {c : Ck} (h : RcAt w g c) (d : Ck) : RcAt (((((((((((w.setCell ⟨g, 0, none⟩ (.int .i64 d.tot)).setCell ⟨g, 1, none⟩ (.int .i64 d.ext)).setCell ⟨g, 2, none⟩ (.int .i64 d.outs)).setCell ⟨g, 3, none⟩ (.int .i64 d.len)).setCell ⟨g, 4, none⟩ (.int .i64 d.l0)).setCell ⟨g, 5, none⟩ (.int .i64 d.l1)).setCell ⟨g, 6, none⟩ (.int .i64 d.o0)).setCell ⟨g, 7, none⟩ (.int .i64 d.o1)).setCell ⟨g, 8, none⟩ (.int .i64 d.now)).setCell ⟨g, 9, none⟩ (.int .i64 d.team)).setCell ⟨g, 10, none⟩ (.int .i64 d.til)) g d := by
  unfold RcAt at h ⊢
  simp [World.setCell, Array.getElem?_modify, h]
theorem heap_set11 {w : World} {g k : Nat} {a0 a1 a2 a3 a4 a5 a6 a7 a8 a9 a10 : Value} (h : k ≠ g) : (((((((((((w.setCell ⟨g, 0, none⟩ a0).setCell ⟨g, 1, none⟩ a1).setCell ⟨g, 2, none⟩ a2).setCell ⟨g, 3, none⟩ a3).setCell ⟨g, 4, none⟩ a4).setCell ⟨g, 5, none⟩ a5).setCell ⟨g, 6, none⟩ a6).setCell ⟨g, 7, none⟩ a7).setCell ⟨g, 8, none⟩ a8).setCell ⟨g, 9, none⟩ a9).setCell ⟨g, 10, none⟩ a10).heap[k]? = w.heap[k]? := by
  rw [heap_set h, heap_set h, heap_set h, heap_set h, heap_set h, heap_set h, heap_set h, heap_set h, heap_set h, heap_set h, heap_set h]
theorem b_set11 {w0 w : World} {g : Nat} {a0 a1 a2 a3 a4 a5 a6 a7 a8 a9 a10 : Value} (h : Below w0.heap.size w0 w) (hg : w0.heap.size ≤ g) : Below w0.heap.size w0 (((((((((((w.setCell ⟨g, 0, none⟩ a0).setCell ⟨g, 1, none⟩ a1).setCell ⟨g, 2, none⟩ a2).setCell ⟨g, 3, none⟩ a3).setCell ⟨g, 4, none⟩ a4).setCell ⟨g, 5, none⟩ a5).setCell ⟨g, 6, none⟩ a6).setCell ⟨g, 7, none⟩ a7).setCell ⟨g, 8, none⟩ a8).setCell ⟨g, 9, none⟩ a9).setCell ⟨g, 10, none⟩ a10) :=
  b_set (b_set (b_set (b_set (b_set (b_set (b_set (b_set (b_set (b_set (b_set h hg) hg) hg) hg) hg) hg) hg) hg) hg) hg) hg
def Ck.zero : Ck := ⟨0, 0, 0, 0, 0, 0, 0, 0, 0, 0, 0⟩
theorem rNewClock_any (a b o l : Int) (w : World) : Calls Tryd.prog 31 #[.agg #[.int .i64 a, .int .i64 b, .int .i64 o, .int .i64 l]] w fun e w' => e = .returned (rval (Ck.new a b o l)) ∧ Below w.heap.size w w' := by
  go_enter Tryd.func31, Tryd.ntmps31
  go_wp2
  apply bodyPost_ret
  · simp [results, Tryd.results31, go_sem]; rfl
  · rfl
  · exact ⟨rfl, by (repeat (first | (with_reducible exact Below.refl _ _) | (with_reducible assumption) | (with_reducible refine b_alloc ?_) | (with_reducible refine b_drew ?_) | (with_reducible refine b_drewN ?_) | (with_reducible refine b_set ?_ (by first | (simp; done) | (dsimp only; omega))) | (with_reducible refine b_call ?_ (by assumption))))⟩
theorem wrong_of {c : Ck} {team t : Int} (h1 : wi team 0 1 = true) (h2 : wi t c.now 1073741824 = true) : c.wrong team t = 0 := by simp [Ck.wrong, h1, h2]
theorem wrong_of4 {c : Ck} {team t : Int} (h1 : wi team 0 1 = true) (h2 : ¬ wi t c.now 1073741824 = true) : c.wrong team t = 4 := by simp [Ck.wrong, h1, h2]
theorem wrong_of2 {c : Ck} {team t : Int} (h1 : ¬ wi team 0 1 = true) : c.wrong team t = 2 := by simp [Ck.wrong, h1]

set_option maxHeartbeats 2000000 in
set_option maxRecDepth 100000 in
theorem rStart_any (c : Ck) (team t : Int) (w : World) (hok : c.Ok) (htm : c.team = -1 ∨ c.team = 0 ∨ c.team = 1) :
    Calls Tryd.prog 32 #[rval c, .int .i64 team, .int .i64 t] w fun e w' => e = .returned (.tuple #[rval (c.start team t).1, .int .i64 (c.start team t).2]) ∧ Below w.heap.size w w' := by
  by_cases h1 : wi team 0 1 = true
  · by_cases h2 : wi t c.now 1073741824 = true
    · have hw := wrong_of h1 h2
      obtain ⟨a1, a2, a3⟩ := Ck.wrong_0 hw
      have hbb : 0 ≤ t ∧ t ≤ 1073741824 := ⟨by have := hok.now; omega, a3⟩
      by_cases h3 : c.team = -1
      · have h3a : ¬ 0 ≤ c.team := by omega
        by_cases h4 : c.of team = 0
        · have Hh4 := Lib.hid h4
          have hs : c.start team t = (c, 7) := by simp [Ck.start, hw, h3, h4]
          rw [hs]
          clear hw hs h3 h4
          rcases a1 with rfl | rfl
          · have h5 : (c.l0 == 0) = true := by simpa [Ck.of] using Hh4.out
            go_enter Tryd.func32, Tryd.ntmps32
            go_wp2_with (first
              | (go_at_call 42; refine (in_any _ _ _ _).mono ?_; rintro e w' ⟨rfl, rfl⟩)
              | (go_at_call 57; refine (timed_any c t _).mono ?_; rintro e w1 ⟨rfl, hb1⟩; obtain ⟨hc1, hf1⟩ := bcell hb1; have hz1 : w.heap.size + 1 < w1.heap.size := (by have := hb1.size; simp at this; omega); have hz0 : w.heap.size < w1.heap.size := by omega)
              | (go_at_call 58; refine (passed_any c t _ hok hbb htm).mono ?_; rintro e w2 ⟨rfl, hb2⟩; obtain ⟨hc2, hf2⟩ := bcell hb2; have hz2 : w1.heap.size ≤ w2.heap.size := hb2.size))
            all_goals
              apply bodyPost_ret
              · simp [results, Tryd.results32, go_sem, *]; rfl
              · rfl
              · exact ⟨rfl, by (repeat (first | (with_reducible exact Below.refl _ _) | (with_reducible assumption) | (with_reducible refine b_alloc ?_) | (with_reducible refine b_drew ?_) | (with_reducible refine b_drewN ?_) | (with_reducible refine b_set ?_ (by first | (simp; done) | (dsimp only; omega))) | (with_reducible refine b_call ?_ (by assumption))))⟩
          · have h5 : (c.l1 == 0) = true := by simpa [Ck.of] using Hh4.out
            go_enter Tryd.func32, Tryd.ntmps32
            go_wp2_with (first
              | (go_at_call 42; refine (in_any _ _ _ _).mono ?_; rintro e w' ⟨rfl, rfl⟩)
              | (go_at_call 57; refine (timed_any c t _).mono ?_; rintro e w1 ⟨rfl, hb1⟩; obtain ⟨hc1, hf1⟩ := bcell hb1; have hz1 : w.heap.size + 1 < w1.heap.size := (by have := hb1.size; simp at this; omega); have hz0 : w.heap.size < w1.heap.size := by omega)
              | (go_at_call 58; refine (passed_any c t _ hok hbb htm).mono ?_; rintro e w2 ⟨rfl, hb2⟩; obtain ⟨hc2, hf2⟩ := bcell hb2; have hz2 : w1.heap.size ≤ w2.heap.size := hb2.size))
            all_goals
              apply bodyPost_ret
              · simp [results, Tryd.results32, go_sem, *]; rfl
              · rfl
              · exact ⟨rfl, by (repeat (first | (with_reducible exact Below.refl _ _) | (with_reducible assumption) | (with_reducible refine b_alloc ?_) | (with_reducible refine b_drew ?_) | (with_reducible refine b_drewN ?_) | (with_reducible refine b_set ?_ (by first | (simp; done) | (dsimp only; omega))) | (with_reducible refine b_call ?_ (by assumption))))⟩
        · have Hh4 := Lib.hid h4
          have hs : c.start team t = ({ c.passed t with team := team }, 0) := by simp [Ck.start, hw, h3, h4]
          rw [hs]
          clear hw hs h3 h4
          rcases a1 with rfl | rfl
          · have h5 : (c.l0 == 0) = false := by simpa [Ck.of] using Hh4.out
            have hpa := fun W => passed_any c t W hok hbb htm
            go_enter Tryd.func32, Tryd.ntmps32
            go_upto_region 9 with (first
              | (go_at_call 42; refine (in_any _ _ _ _).mono ?_; rintro e w' ⟨rfl, rfl⟩)
              | (go_at_call 57; refine (timed_any c t _).mono ?_; rintro e w1 ⟨rfl, hb1⟩; have hR1 : RcAt w1 w.heap.size c := (hb1.block _ (by simp; omega)).trans ((alloc_old _ _ (by simp)).trans (alloc_at w _)); have hZ1 : RcAt w1 (w.heap.size + 1) Ck.zero := (hb1.block _ (by simp)).trans (by have := alloc_at (w.alloc (.cells #[.int .i64 c.tot, .int .i64 c.ext, .int .i64 c.outs, .int .i64 c.len, .int .i64 c.l0, .int .i64 c.l1, .int .i64 c.o0, .int .i64 c.o1, .int .i64 c.now, .int .i64 c.team, .int .i64 c.til] 64)) (.cells #[.int .i64 0, .int .i64 0, .int .i64 0, .int .i64 0, .int .i64 0, .int .i64 0, .int .i64 0, .int .i64 0, .int .i64 0, .int .i64 0, .int .i64 0] 64); simpa [Ck.zero] using this); obtain ⟨e0, e1, e2, e3, e4, e5, e6, e7, e8, e9, e10, ef, ez⟩ := hR1.cells; obtain ⟨z0, z1, z2, z3, z4, z5, z6, z7, z8, z9, z10, zf, zz⟩ := hZ1.cells))
            have hB1 := b_call (b_alloc (b_alloc (Below.refl w.heap.size w))) hb1
            go_cut [] (fun wx => RcAt wx w.heap.size (c.passed t) ∧ RcAt wx (w.heap.size + 1) Ck.zero ∧ Below w.heap.size w wx)
            case first =>
              go_wp2_with (go_at_call 58; refine (hpa _).mono ?_; rintro e w2 ⟨rfl, hb2⟩; have hR2 := hR1.below hb2; have hZ2 := hZ1.below hb2; clear hb1; clear e0 e1 e2 e3 e4 e5 e6 e7 e8 e9 e10 ef ez z0 z1 z2 z3 z4 z5 z6 z7 z8 z9 z10 zf zz hpa; obtain ⟨e0, e1, e2, e3, e4, e5, e6, e7, e8, e9, e10, ef, ez⟩ := hR2.cells)
              go_meet
              exact ⟨hR2.store _, hZ2.kept (heap_set11 (by omega)), b_set11 (b_call hB1 hb2) (by omega)⟩
            case rest =>
              clear e0 e1 e2 e3 e4 e5 e6 e7 e8 e9 e10 ef ez z0 z1 z2 z3 z4 z5 z6 z7 z8 z9 z10 zf zz hpa hR1 hZ1 hB1 hb1
              obtain ⟨hR, hZ, hB⟩ := hcut
              obtain ⟨e0, e1, e2, e3, e4, e5, e6, e7, e8, e9, e10, ef, ez⟩ := hR.cells
              obtain ⟨z0, z1, z2, z3, z4, z5, z6, z7, z8, z9, z10, zf, zz⟩ := hZ.cells
              simp only [Ck.zero] at z0 z1 z2 z3 z4 z5 z6 z7 z8 z9 z10
              go_wp2
              skip
              all_goals
                apply bodyPost_ret
                · simp [results, Tryd.results32, go_sem, *]; rfl
                · rfl
                · exact ⟨rfl, by (repeat (first | (with_reducible exact Below.refl _ _) | (with_reducible assumption) | (with_reducible refine b_alloc ?_) | (with_reducible refine b_drew ?_) | (with_reducible refine b_drewN ?_) | (with_reducible refine b_set ?_ (by first | (simp; done) | (dsimp only; omega))) | (with_reducible refine b_call ?_ (by assumption))))⟩
          · have h5 : (c.l1 == 0) = false := by simpa [Ck.of] using Hh4.out
            have hpa := fun W => passed_any c t W hok hbb htm
            go_enter Tryd.func32, Tryd.ntmps32
            go_upto_region 9 with (first
              | (go_at_call 42; refine (in_any _ _ _ _).mono ?_; rintro e w' ⟨rfl, rfl⟩)
              | (go_at_call 57; refine (timed_any c t _).mono ?_; rintro e w1 ⟨rfl, hb1⟩; have hR1 : RcAt w1 w.heap.size c := (hb1.block _ (by simp; omega)).trans ((alloc_old _ _ (by simp)).trans (alloc_at w _)); have hZ1 : RcAt w1 (w.heap.size + 1) Ck.zero := (hb1.block _ (by simp)).trans (by have := alloc_at (w.alloc (.cells #[.int .i64 c.tot, .int .i64 c.ext, .int .i64 c.outs, .int .i64 c.len, .int .i64 c.l0, .int .i64 c.l1, .int .i64 c.o0, .int .i64 c.o1, .int .i64 c.now, .int .i64 c.team, .int .i64 c.til] 64)) (.cells #[.int .i64 0, .int .i64 0, .int .i64 0, .int .i64 0, .int .i64 0, .int .i64 0, .int .i64 0, .int .i64 0, .int .i64 0, .int .i64 0, .int .i64 0] 64); simpa [Ck.zero] using this); obtain ⟨e0, e1, e2, e3, e4, e5, e6, e7, e8, e9, e10, ef, ez⟩ := hR1.cells; obtain ⟨z0, z1, z2, z3, z4, z5, z6, z7, z8, z9, z10, zf, zz⟩ := hZ1.cells))
            have hB1 := b_call (b_alloc (b_alloc (Below.refl w.heap.size w))) hb1
            go_cut [] (fun wx => RcAt wx w.heap.size (c.passed t) ∧ RcAt wx (w.heap.size + 1) Ck.zero ∧ Below w.heap.size w wx)
            case first =>
              go_wp2_with (go_at_call 58; refine (hpa _).mono ?_; rintro e w2 ⟨rfl, hb2⟩; have hR2 := hR1.below hb2; have hZ2 := hZ1.below hb2; clear hb1; clear e0 e1 e2 e3 e4 e5 e6 e7 e8 e9 e10 ef ez z0 z1 z2 z3 z4 z5 z6 z7 z8 z9 z10 zf zz hpa; obtain ⟨e0, e1, e2, e3, e4, e5, e6, e7, e8, e9, e10, ef, ez⟩ := hR2.cells)
              go_meet
              exact ⟨hR2.store _, hZ2.kept (heap_set11 (by omega)), b_set11 (b_call hB1 hb2) (by omega)⟩
            case rest =>
              clear e0 e1 e2 e3 e4 e5 e6 e7 e8 e9 e10 ef ez z0 z1 z2 z3 z4 z5 z6 z7 z8 z9 z10 zf zz hpa hR1 hZ1 hB1 hb1
              obtain ⟨hR, hZ, hB⟩ := hcut
              obtain ⟨e0, e1, e2, e3, e4, e5, e6, e7, e8, e9, e10, ef, ez⟩ := hR.cells
              obtain ⟨z0, z1, z2, z3, z4, z5, z6, z7, z8, z9, z10, zf, zz⟩ := hZ.cells
              simp only [Ck.zero] at z0 z1 z2 z3 z4 z5 z6 z7 z8 z9 z10
              go_wp2
              skip
              all_goals
                apply bodyPost_ret
                · simp [results, Tryd.results32, go_sem, *]; rfl
                · rfl
                · exact ⟨rfl, by (repeat (first | (with_reducible exact Below.refl _ _) | (with_reducible assumption) | (with_reducible refine b_alloc ?_) | (with_reducible refine b_drew ?_) | (with_reducible refine b_drewN ?_) | (with_reducible refine b_set ?_ (by first | (simp; done) | (dsimp only; omega))) | (with_reducible refine b_call ?_ (by assumption))))⟩
      · have h3a : 0 ≤ c.team := by omega
        have hs : c.start team t = (c, 9) := by simp [Ck.start, hw, h3]
        rw [hs]
        clear hw hs
        go_enter Tryd.func32, Tryd.ntmps32
        go_wp2_with (first
          | (go_at_call 42; refine (in_any _ _ _ _).mono ?_; rintro e w' ⟨rfl, rfl⟩)
          | (go_at_call 57; refine (timed_any c t _).mono ?_; rintro e w1 ⟨rfl, hb1⟩; obtain ⟨hc1, hf1⟩ := bcell hb1; have hz1 : w.heap.size + 1 < w1.heap.size := (by have := hb1.size; simp at this; omega); have hz0 : w.heap.size < w1.heap.size := by omega)
          | (go_at_call 58; refine (passed_any c t _ hok hbb htm).mono ?_; rintro e w2 ⟨rfl, hb2⟩; obtain ⟨hc2, hf2⟩ := bcell hb2; have hz2 : w1.heap.size ≤ w2.heap.size := hb2.size))
        all_goals
          apply bodyPost_ret
          · simp [results, Tryd.results32, go_sem, *]; rfl
          · rfl
          · exact ⟨rfl, by (repeat (first | (with_reducible exact Below.refl _ _) | (with_reducible assumption) | (with_reducible refine b_alloc ?_) | (with_reducible refine b_drew ?_) | (with_reducible refine b_drewN ?_) | (with_reducible refine b_set ?_ (by first | (simp; done) | (dsimp only; omega))) | (with_reducible refine b_call ?_ (by assumption))))⟩
    · have hw := wrong_of4 h1 h2
      have h2' := Bool.eq_false_iff.2 h2
      have hs : c.start team t = (c, 4) := by simp [Ck.start, hw]
      rw [hs]
      clear hw hs
      go_enter Tryd.func32, Tryd.ntmps32
      go_wp2_with (first
        | (go_at_call 42; refine (in_any _ _ _ _).mono ?_; rintro e w' ⟨rfl, rfl⟩)
        | (go_at_call 57; refine (timed_any c t _).mono ?_; rintro e w1 ⟨rfl, hb1⟩; obtain ⟨hc1, hf1⟩ := bcell hb1; have hz1 : w.heap.size + 1 < w1.heap.size := (by have := hb1.size; simp at this; omega); have hz0 : w.heap.size < w1.heap.size := by omega)
        | (go_at_call 58; refine (passed_any c t _ hok hbb htm).mono ?_; rintro e w2 ⟨rfl, hb2⟩; obtain ⟨hc2, hf2⟩ := bcell hb2; have hz2 : w1.heap.size ≤ w2.heap.size := hb2.size))
      all_goals
        apply bodyPost_ret
        · simp [results, Tryd.results32, go_sem, *]; rfl
        · rfl
        · exact ⟨rfl, by (repeat (first | (with_reducible exact Below.refl _ _) | (with_reducible assumption) | (with_reducible refine b_alloc ?_) | (with_reducible refine b_drew ?_) | (with_reducible refine b_drewN ?_) | (with_reducible refine b_set ?_ (by first | (simp; done) | (dsimp only; omega))) | (with_reducible refine b_call ?_ (by assumption))))⟩
  · have hw := wrong_of2 (c := c) (t := t) h1
    have h1' := Bool.eq_false_iff.2 h1
    have hs : c.start team t = (c, 2) := by simp [Ck.start, hw]
    rw [hs]
    clear hw hs
    go_enter Tryd.func32, Tryd.ntmps32
    go_wp2_with (first
      | (go_at_call 42; refine (in_any _ _ _ _).mono ?_; rintro e w' ⟨rfl, rfl⟩)
      | (go_at_call 57; refine (timed_any c t _).mono ?_; rintro e w1 ⟨rfl, hb1⟩; obtain ⟨hc1, hf1⟩ := bcell hb1; have hz1 : w.heap.size + 1 < w1.heap.size := (by have := hb1.size; simp at this; omega); have hz0 : w.heap.size < w1.heap.size := by omega)
      | (go_at_call 58; refine (passed_any c t _ hok hbb htm).mono ?_; rintro e w2 ⟨rfl, hb2⟩; obtain ⟨hc2, hf2⟩ := bcell hb2; have hz2 : w1.heap.size ≤ w2.heap.size := hb2.size))
    all_goals
      apply bodyPost_ret
      · simp [results, Tryd.results32, go_sem, *]; rfl
      · rfl
      · exact ⟨rfl, by (repeat (first | (with_reducible exact Below.refl _ _) | (with_reducible assumption) | (with_reducible refine b_alloc ?_) | (with_reducible refine b_drew ?_) | (with_reducible refine b_drewN ?_) | (with_reducible refine b_set ?_ (by first | (simp; done) | (dsimp only; omega))) | (with_reducible refine b_call ?_ (by assumption))))⟩

set_option maxHeartbeats 2000000 in
set_option maxRecDepth 100000 in
theorem rStop_any (c : Ck) (t : Int) (w : World) (hok : c.Ok) (htm : c.team = -1 ∨ c.team = 0 ∨ c.team = 1) :
    Calls Tryd.prog 33 #[rval c, .int .i64 t] w fun e w' => e = .returned (.tuple #[rval (c.stop t).1, .int .i64 (c.stop t).2]) ∧ Below w.heap.size w w' := by
  · have h1 : wi 0 0 1 = true := by decide
    by_cases h2 : wi t c.now 1073741824 = true
    · have hw := wrong_of h1 h2
      obtain ⟨_, a2, a3⟩ := Ck.wrong_0 hw
      have hbb : 0 ≤ t ∧ t ≤ 1073741824 := ⟨by have := hok.now; omega, a3⟩
      by_cases h3 : c.team = -1
      · have h3a : c.team < 0 := by omega
        have hs : c.stop t = (c, 9) := by simp [Ck.stop, hw, h3]
        rw [hs]
        clear hw hs h3
        go_enter Tryd.func33, Tryd.ntmps33
        go_wp2_with (first
          | (go_at_call 42; refine (in_any _ _ _ _).mono ?_; rintro e w' ⟨rfl, rfl⟩)
          | (go_at_call 57; refine (timed_any c t _).mono ?_; rintro e w1 ⟨rfl, hb1⟩; obtain ⟨hc1, hf1⟩ := bcell hb1; have hz1 : w.heap.size + 1 < w1.heap.size := (by have := hb1.size; simp at this; omega); have hz0 : w.heap.size < w1.heap.size := by omega)
          | (go_at_call 58; refine (passed_any c t _ hok hbb htm).mono ?_; rintro e w2 ⟨rfl, hb2⟩; obtain ⟨hc2, hf2⟩ := bcell hb2; have hz2 : w1.heap.size ≤ w2.heap.size := hb2.size))
        all_goals
          apply bodyPost_ret
          · simp [results, Tryd.results33, go_sem, *]; rfl
          · rfl
          · exact ⟨rfl, by (repeat (first | (with_reducible exact Below.refl _ _) | (with_reducible assumption) | (with_reducible refine b_alloc ?_) | (with_reducible refine b_drew ?_) | (with_reducible refine b_drewN ?_) | (with_reducible refine b_set ?_ (by first | (simp; done) | (dsimp only; omega))) | (with_reducible refine b_call ?_ (by assumption))))⟩
      · have h3a : ¬ c.team < 0 := by omega
        have hs : c.stop t = ({ c.passed t with team := -1 }, 0) := by simp [Ck.stop, hw, h3]
        rw [hs]
        clear hw hs
        have hpa := fun W => passed_any c t W hok hbb htm
        go_enter Tryd.func33, Tryd.ntmps33
        go_upto_region 5 with (first
          | (go_at_call 42; refine (in_any _ _ _ _).mono ?_; rintro e w' ⟨rfl, rfl⟩)
          | (go_at_call 57; refine (timed_any c t _).mono ?_; rintro e w1 ⟨rfl, hb1⟩; have hR1 : RcAt w1 w.heap.size c := (hb1.block _ (by simp; omega)).trans ((alloc_old _ _ (by simp)).trans (alloc_at w _)); have hZ1 : RcAt w1 (w.heap.size + 1) Ck.zero := (hb1.block _ (by simp)).trans (by have := alloc_at (w.alloc (.cells #[.int .i64 c.tot, .int .i64 c.ext, .int .i64 c.outs, .int .i64 c.len, .int .i64 c.l0, .int .i64 c.l1, .int .i64 c.o0, .int .i64 c.o1, .int .i64 c.now, .int .i64 c.team, .int .i64 c.til] 64)) (.cells #[.int .i64 0, .int .i64 0, .int .i64 0, .int .i64 0, .int .i64 0, .int .i64 0, .int .i64 0, .int .i64 0, .int .i64 0, .int .i64 0, .int .i64 0] 64); simpa [Ck.zero] using this); obtain ⟨e0, e1, e2, e3, e4, e5, e6, e7, e8, e9, e10, ef, ez⟩ := hR1.cells; obtain ⟨z0, z1, z2, z3, z4, z5, z6, z7, z8, z9, z10, zf, zz⟩ := hZ1.cells))
        have hB1 := b_call (b_alloc (b_alloc (Below.refl w.heap.size w))) hb1
        go_cut [] (fun wx => RcAt wx w.heap.size (c.passed t) ∧ RcAt wx (w.heap.size + 1) Ck.zero ∧ Below w.heap.size w wx)
        case first =>
          go_wp2_with (go_at_call 58; refine (hpa _).mono ?_; rintro e w2 ⟨rfl, hb2⟩; have hR2 := hR1.below hb2; have hZ2 := hZ1.below hb2; clear hb1; clear e0 e1 e2 e3 e4 e5 e6 e7 e8 e9 e10 ef ez z0 z1 z2 z3 z4 z5 z6 z7 z8 z9 z10 zf zz hpa; obtain ⟨e0, e1, e2, e3, e4, e5, e6, e7, e8, e9, e10, ef, ez⟩ := hR2.cells)
          go_meet
          exact ⟨hR2.store _, hZ2.kept (heap_set11 (by omega)), b_set11 (b_call hB1 hb2) (by omega)⟩
        case rest =>
          clear e0 e1 e2 e3 e4 e5 e6 e7 e8 e9 e10 ef ez z0 z1 z2 z3 z4 z5 z6 z7 z8 z9 z10 zf zz hpa hR1 hZ1 hB1 hb1
          obtain ⟨hR, hZ, hB⟩ := hcut
          obtain ⟨e0, e1, e2, e3, e4, e5, e6, e7, e8, e9, e10, ef, ez⟩ := hR.cells
          obtain ⟨z0, z1, z2, z3, z4, z5, z6, z7, z8, z9, z10, zf, zz⟩ := hZ.cells
          simp only [Ck.zero] at z0 z1 z2 z3 z4 z5 z6 z7 z8 z9 z10
          go_wp2
          skip
          all_goals
            apply bodyPost_ret
            · simp [results, Tryd.results33, go_sem, *]; rfl
            · rfl
            · exact ⟨rfl, by (repeat (first | (with_reducible exact Below.refl _ _) | (with_reducible assumption) | (with_reducible refine b_alloc ?_) | (with_reducible refine b_drew ?_) | (with_reducible refine b_drewN ?_) | (with_reducible refine b_set ?_ (by first | (simp; done) | (dsimp only; omega))) | (with_reducible refine b_call ?_ (by assumption))))⟩
    · have hw := wrong_of4 h1 h2
      have h2' := Bool.eq_false_iff.2 h2
      have hs : c.stop t = (c, 4) := by simp [Ck.stop, hw]
      rw [hs]
      clear hw hs
      go_enter Tryd.func33, Tryd.ntmps33
      go_wp2_with (first
        | (go_at_call 42; refine (in_any _ _ _ _).mono ?_; rintro e w' ⟨rfl, rfl⟩)
        | (go_at_call 57; refine (timed_any c t _).mono ?_; rintro e w1 ⟨rfl, hb1⟩; obtain ⟨hc1, hf1⟩ := bcell hb1; have hz1 : w.heap.size + 1 < w1.heap.size := (by have := hb1.size; simp at this; omega); have hz0 : w.heap.size < w1.heap.size := by omega)
        | (go_at_call 58; refine (passed_any c t _ hok hbb htm).mono ?_; rintro e w2 ⟨rfl, hb2⟩; obtain ⟨hc2, hf2⟩ := bcell hb2; have hz2 : w1.heap.size ≤ w2.heap.size := hb2.size))
      all_goals
        apply bodyPost_ret
        · simp [results, Tryd.results33, go_sem, *]; rfl
        · rfl
        · exact ⟨rfl, by (repeat (first | (with_reducible exact Below.refl _ _) | (with_reducible assumption) | (with_reducible refine b_alloc ?_) | (with_reducible refine b_drew ?_) | (with_reducible refine b_drewN ?_) | (with_reducible refine b_set ?_ (by first | (simp; done) | (dsimp only; omega))) | (with_reducible refine b_call ?_ (by assumption))))⟩

set_option maxHeartbeats 2000000 in
set_option maxRecDepth 100000 in
theorem rExtra_any (c : Ck) (t : Int) (w : World) (hok : c.Ok) (htm : c.team = -1 ∨ c.team = 0 ∨ c.team = 1) (he : 0 ≤ c.ext ∧ c.ext ≤ 100000) :
    Calls Tryd.prog 35 #[rval c, .int .i64 t] w fun e w' => e = .returned (.tuple #[rval (c.extra t).1, .int .i64 (c.extra t).2]) ∧ Below w.heap.size w w' := by
  · have h1 : wi 0 0 1 = true := by decide
    by_cases h2 : wi t c.now 1073741824 = true
    · have hw := wrong_of h1 h2
      obtain ⟨_, a2, a3⟩ := Ck.wrong_0 hw
      have hbb : 0 ≤ t ∧ t ≤ 1073741824 := ⟨by have := hok.now; omega, a3⟩
      have hl0 := left_le (team := 0) (t := t) hok
      have hl1 := left_le (team := 1) (t := t) hok
      have q0 : 0 ≤ (c.passed t).l0 ∧ (c.passed t).l0 ≤ 1099511627776 := hl0
      have q1 : 0 ≤ (c.passed t).l1 ∧ (c.passed t).l1 ≤ 1099511627776 := hl1
      have q2 : 0 ≤ (c.passed t).ext ∧ (c.passed t).ext ≤ 100000 := he
      by_cases h3 : c.team = -1
      · have h3a : ¬ 0 ≤ c.team := by omega
        have hs : c.extra t = (c.more t, 0) := by simp [Ck.extra, hw, h3]
        rw [hs]
        clear hw hs h3
        have hpa := fun W => passed_any c t W hok hbb htm
        go_enter Tryd.func35, Tryd.ntmps35
        go_upto_region 5 with (first
          | (go_at_call 42; refine (in_any _ _ _ _).mono ?_; rintro e w' ⟨rfl, rfl⟩)
          | (go_at_call 57; refine (timed_any c t _).mono ?_; rintro e w1 ⟨rfl, hb1⟩; have hR1 : RcAt w1 w.heap.size c := (hb1.block _ (by simp; omega)).trans ((alloc_old _ _ (by simp)).trans (alloc_at w _)); have hZ1 : RcAt w1 (w.heap.size + 1) Ck.zero := (hb1.block _ (by simp)).trans (by have := alloc_at (w.alloc (.cells #[.int .i64 c.tot, .int .i64 c.ext, .int .i64 c.outs, .int .i64 c.len, .int .i64 c.l0, .int .i64 c.l1, .int .i64 c.o0, .int .i64 c.o1, .int .i64 c.now, .int .i64 c.team, .int .i64 c.til] 64)) (.cells #[.int .i64 0, .int .i64 0, .int .i64 0, .int .i64 0, .int .i64 0, .int .i64 0, .int .i64 0, .int .i64 0, .int .i64 0, .int .i64 0, .int .i64 0] 64); simpa [Ck.zero] using this); obtain ⟨e0, e1, e2, e3, e4, e5, e6, e7, e8, e9, e10, ef, ez⟩ := hR1.cells; obtain ⟨z0, z1, z2, z3, z4, z5, z6, z7, z8, z9, z10, zf, zz⟩ := hZ1.cells))
        have hB1 := b_call (b_alloc (b_alloc (Below.refl w.heap.size w))) hb1
        go_cut [] (fun wx => RcAt wx w.heap.size (c.passed t) ∧ RcAt wx (w.heap.size + 1) Ck.zero ∧ Below w.heap.size w wx)
        case first =>
          go_wp2_with (go_at_call 58; refine (hpa _).mono ?_; rintro e w2 ⟨rfl, hb2⟩; have hR2 := hR1.below hb2; have hZ2 := hZ1.below hb2; clear hb1; clear e0 e1 e2 e3 e4 e5 e6 e7 e8 e9 e10 ef ez z0 z1 z2 z3 z4 z5 z6 z7 z8 z9 z10 zf zz hpa; obtain ⟨e0, e1, e2, e3, e4, e5, e6, e7, e8, e9, e10, ef, ez⟩ := hR2.cells)
          go_meet
          exact ⟨hR2.store _, hZ2.kept (heap_set11 (by omega)), b_set11 (b_call hB1 hb2) (by omega)⟩
        case rest =>
          clear e0 e1 e2 e3 e4 e5 e6 e7 e8 e9 e10 ef ez z0 z1 z2 z3 z4 z5 z6 z7 z8 z9 z10 zf zz hpa hR1 hZ1 hB1 hb1
          obtain ⟨hR, hZ, hB⟩ := hcut
          obtain ⟨e0, e1, e2, e3, e4, e5, e6, e7, e8, e9, e10, ef, ez⟩ := hR.cells
          obtain ⟨z0, z1, z2, z3, z4, z5, z6, z7, z8, z9, z10, zf, zz⟩ := hZ.cells
          simp only [Ck.zero] at z0 z1 z2 z3 z4 z5 z6 z7 z8 z9 z10
          go_wp2
          skip
          all_goals
            apply bodyPost_ret
            · simp [results, Tryd.results35, go_sem, *]; rfl
            · rfl
            · exact ⟨rfl, by (repeat (first | (with_reducible exact Below.refl _ _) | (with_reducible assumption) | (with_reducible refine b_alloc ?_) | (with_reducible refine b_drew ?_) | (with_reducible refine b_drewN ?_) | (with_reducible refine b_set ?_ (by first | (simp; done) | (dsimp only; omega))) | (with_reducible refine b_call ?_ (by assumption))))⟩
      · have h3a : 0 ≤ c.team := by omega
        have hs : c.extra t = (c, 9) := by simp [Ck.extra, hw, h3]
        rw [hs]
        clear hw hs
        go_enter Tryd.func35, Tryd.ntmps35
        go_wp2_with (first
          | (go_at_call 42; refine (in_any _ _ _ _).mono ?_; rintro e w' ⟨rfl, rfl⟩)
          | (go_at_call 57; refine (timed_any c t _).mono ?_; rintro e w1 ⟨rfl, hb1⟩; obtain ⟨hc1, hf1⟩ := bcell hb1; have hz1 : w.heap.size + 1 < w1.heap.size := (by have := hb1.size; simp at this; omega); have hz0 : w.heap.size < w1.heap.size := by omega)
          | (go_at_call 58; refine (passed_any c t _ hok hbb htm).mono ?_; rintro e w2 ⟨rfl, hb2⟩; obtain ⟨hc2, hf2⟩ := bcell hb2; have hz2 : w1.heap.size ≤ w2.heap.size := hb2.size))
        all_goals
          apply bodyPost_ret
          · simp [results, Tryd.results35, go_sem, *]; rfl
          · rfl
          · exact ⟨rfl, by (repeat (first | (with_reducible exact Below.refl _ _) | (with_reducible assumption) | (with_reducible refine b_alloc ?_) | (with_reducible refine b_drew ?_) | (with_reducible refine b_drewN ?_) | (with_reducible refine b_set ?_ (by first | (simp; done) | (dsimp only; omega))) | (with_reducible refine b_call ?_ (by assumption))))⟩
    · have hw := wrong_of4 h1 h2
      have h2' := Bool.eq_false_iff.2 h2
      have hs : c.extra t = (c, 4) := by simp [Ck.extra, hw]
      rw [hs]
      clear hw hs
      go_enter Tryd.func35, Tryd.ntmps35
      go_wp2_with (first
        | (go_at_call 42; refine (in_any _ _ _ _).mono ?_; rintro e w' ⟨rfl, rfl⟩)
        | (go_at_call 57; refine (timed_any c t _).mono ?_; rintro e w1 ⟨rfl, hb1⟩; obtain ⟨hc1, hf1⟩ := bcell hb1; have hz1 : w.heap.size + 1 < w1.heap.size := (by have := hb1.size; simp at this; omega); have hz0 : w.heap.size < w1.heap.size := by omega)
        | (go_at_call 58; refine (passed_any c t _ hok hbb htm).mono ?_; rintro e w2 ⟨rfl, hb2⟩; obtain ⟨hc2, hf2⟩ := bcell hb2; have hz2 : w1.heap.size ≤ w2.heap.size := hb2.size))
      all_goals
        apply bodyPost_ret
        · simp [results, Tryd.results35, go_sem, *]; rfl
        · rfl
        · exact ⟨rfl, by (repeat (first | (with_reducible exact Below.refl _ _) | (with_reducible assumption) | (with_reducible refine b_alloc ?_) | (with_reducible refine b_drew ?_) | (with_reducible refine b_drewN ?_) | (with_reducible refine b_set ?_ (by first | (simp; done) | (dsimp only; omega))) | (with_reducible refine b_call ?_ (by assumption))))⟩

set_option maxHeartbeats 2000000 in
set_option maxRecDepth 100000 in
theorem rOut_any (c : Ck) (team t : Int) (w : World) (hok : c.Ok) (htm : c.team = -1 ∨ c.team = 0 ∨ c.team = 1) (hl : 0 ≤ c.len ∧ c.len ≤ 100000) (hoo : (0 ≤ c.o0 ∧ c.o0 ≤ 10) ∧ (0 ≤ c.o1 ∧ c.o1 ≤ 10)) :
    Calls Tryd.prog 34 #[rval c, .int .i64 team, .int .i64 t] w fun e w' => e = .returned (.tuple #[rval (c.out team t).1, .int .i64 (c.out team t).2]) ∧ Below w.heap.size w w' := by
  by_cases h1 : wi team 0 1 = true
  · by_cases h2 : wi t c.now 1073741824 = true
    · have hw := wrong_of h1 h2
      obtain ⟨a1, a2, a3⟩ := Ck.wrong_0 hw
      have hbb : 0 ≤ t ∧ t ≤ 1073741824 := ⟨by have := hok.now; omega, a3⟩
      have q3 : 0 ≤ (c.passed t).len ∧ (c.passed t).len ≤ 100000 := hl
      have q4 : 0 ≤ (c.passed t).o0 ∧ (c.passed t).o0 ≤ 10 := hoo.1
      have q5 : 0 ≤ (c.passed t).o1 ∧ (c.passed t).o1 ≤ 10 := hoo.2
      by_cases h3 : c.team = team
      · have h3a : (c.team != team) = false := by simpa using h3
        have Hh3 := Lib.hid h3
        by_cases h6 : t < c.til
        · have hs : c.out team t = (c, 9) := by simp [Ck.out, hw, h3, h6]
          rw [hs]
          clear hw hs h3
          go_enter Tryd.func34, Tryd.ntmps34
          go_wp2_with (first
            | (go_at_call 42; refine (in_any _ _ _ _).mono ?_; rintro e w' ⟨rfl, rfl⟩)
            | (go_at_call 57; refine (timed_any c t _).mono ?_; rintro e w1 ⟨rfl, hb1⟩; obtain ⟨hc1, hf1⟩ := bcell hb1; have hz1 : w.heap.size + 1 < w1.heap.size := (by have := hb1.size; simp at this; omega); have hz0 : w.heap.size < w1.heap.size := by omega)
            | (go_at_call 58; refine (passed_any c t _ hok hbb htm).mono ?_; rintro e w2 ⟨rfl, hb2⟩; obtain ⟨hc2, hf2⟩ := bcell hb2; have hz2 : w1.heap.size ≤ w2.heap.size := hb2.size))
          all_goals
            apply bodyPost_ret
            · simp [results, Tryd.results34, go_sem, *]; rfl
            · rfl
            · exact ⟨rfl, by (repeat (first | (with_reducible exact Below.refl _ _) | (with_reducible assumption) | (with_reducible refine b_alloc ?_) | (with_reducible refine b_drew ?_) | (with_reducible refine b_drewN ?_) | (with_reducible refine b_set ?_ (by first | (simp; done) | (dsimp only; omega))) | (with_reducible refine b_call ?_ (by assumption))))⟩
        · by_cases h4 : c.outsOf team = 0
          · have Hh4 := Lib.hid h4
            have hs : c.out team t = (c, 7) := by simp [Ck.out, hw, h3, h6, h4]
            rw [hs]
            clear hw hs h3 h4
            rcases a1 with rfl | rfl
            · have h5 : (c.o0 == 0) = true := by simpa [Ck.outsOf] using Hh4.out
              go_enter Tryd.func34, Tryd.ntmps34
              go_wp2_with (first
                | (go_at_call 42; refine (in_any _ _ _ _).mono ?_; rintro e w' ⟨rfl, rfl⟩)
                | (go_at_call 57; refine (timed_any c t _).mono ?_; rintro e w1 ⟨rfl, hb1⟩; obtain ⟨hc1, hf1⟩ := bcell hb1; have hz1 : w.heap.size + 1 < w1.heap.size := (by have := hb1.size; simp at this; omega); have hz0 : w.heap.size < w1.heap.size := by omega)
                | (go_at_call 58; refine (passed_any c t _ hok hbb htm).mono ?_; rintro e w2 ⟨rfl, hb2⟩; obtain ⟨hc2, hf2⟩ := bcell hb2; have hz2 : w1.heap.size ≤ w2.heap.size := hb2.size))
              all_goals
                apply bodyPost_ret
                · simp [results, Tryd.results34, go_sem, *]; rfl
                · rfl
                · exact ⟨rfl, by (repeat (first | (with_reducible exact Below.refl _ _) | (with_reducible assumption) | (with_reducible refine b_alloc ?_) | (with_reducible refine b_drew ?_) | (with_reducible refine b_drewN ?_) | (with_reducible refine b_set ?_ (by first | (simp; done) | (dsimp only; omega))) | (with_reducible refine b_call ?_ (by assumption))))⟩
            · have h5 : (c.o1 == 0) = true := by simpa [Ck.outsOf] using Hh4.out
              go_enter Tryd.func34, Tryd.ntmps34
              go_wp2_with (first
                | (go_at_call 42; refine (in_any _ _ _ _).mono ?_; rintro e w' ⟨rfl, rfl⟩)
                | (go_at_call 57; refine (timed_any c t _).mono ?_; rintro e w1 ⟨rfl, hb1⟩; obtain ⟨hc1, hf1⟩ := bcell hb1; have hz1 : w.heap.size + 1 < w1.heap.size := (by have := hb1.size; simp at this; omega); have hz0 : w.heap.size < w1.heap.size := by omega)
                | (go_at_call 58; refine (passed_any c t _ hok hbb htm).mono ?_; rintro e w2 ⟨rfl, hb2⟩; obtain ⟨hc2, hf2⟩ := bcell hb2; have hz2 : w1.heap.size ≤ w2.heap.size := hb2.size))
              all_goals
                apply bodyPost_ret
                · simp [results, Tryd.results34, go_sem, *]; rfl
                · rfl
                · exact ⟨rfl, by (repeat (first | (with_reducible exact Below.refl _ _) | (with_reducible assumption) | (with_reducible refine b_alloc ?_) | (with_reducible refine b_drew ?_) | (with_reducible refine b_drewN ?_) | (with_reducible refine b_set ?_ (by first | (simp; done) | (dsimp only; omega))) | (with_reducible refine b_call ?_ (by assumption))))⟩
          · have Hh4 := Lib.hid h4
            have hs : c.out team t = (c.outed team t, 0) := by simp [Ck.out, hw, h3, h6, h4]
            rw [hs]
            clear hw hs h3 h4
            rcases a1 with rfl | rfl
            · have h5 : (c.o0 == 0) = false := by simpa [Ck.outsOf] using Hh4.out
              have hpa := fun W => passed_any c t W hok hbb htm
              go_enter Tryd.func34, Tryd.ntmps34
              go_upto_region 9 with (first
                | (go_at_call 42; refine (in_any _ _ _ _).mono ?_; rintro e w' ⟨rfl, rfl⟩)
                | (go_at_call 57; refine (timed_any c t _).mono ?_; rintro e w1 ⟨rfl, hb1⟩; have hR1 : RcAt w1 w.heap.size c := (hb1.block _ (by simp; omega)).trans ((alloc_old _ _ (by simp)).trans (alloc_at w _)); have hZ1 : RcAt w1 (w.heap.size + 1) Ck.zero := (hb1.block _ (by simp)).trans (by have := alloc_at (w.alloc (.cells #[.int .i64 c.tot, .int .i64 c.ext, .int .i64 c.outs, .int .i64 c.len, .int .i64 c.l0, .int .i64 c.l1, .int .i64 c.o0, .int .i64 c.o1, .int .i64 c.now, .int .i64 c.team, .int .i64 c.til] 64)) (.cells #[.int .i64 0, .int .i64 0, .int .i64 0, .int .i64 0, .int .i64 0, .int .i64 0, .int .i64 0, .int .i64 0, .int .i64 0, .int .i64 0, .int .i64 0] 64); simpa [Ck.zero] using this); obtain ⟨e0, e1, e2, e3, e4, e5, e6, e7, e8, e9, e10, ef, ez⟩ := hR1.cells; obtain ⟨z0, z1, z2, z3, z4, z5, z6, z7, z8, z9, z10, zf, zz⟩ := hZ1.cells))
              have hB1 := b_call (b_alloc (b_alloc (Below.refl w.heap.size w))) hb1
              go_cut [] (fun wx => RcAt wx w.heap.size (c.passed t) ∧ RcAt wx (w.heap.size + 1) Ck.zero ∧ Below w.heap.size w wx)
              case first =>
                go_wp2_with (go_at_call 58; refine (hpa _).mono ?_; rintro e w2 ⟨rfl, hb2⟩; have hR2 := hR1.below hb2; have hZ2 := hZ1.below hb2; clear hb1; clear e0 e1 e2 e3 e4 e5 e6 e7 e8 e9 e10 ef ez z0 z1 z2 z3 z4 z5 z6 z7 z8 z9 z10 zf zz hpa; obtain ⟨e0, e1, e2, e3, e4, e5, e6, e7, e8, e9, e10, ef, ez⟩ := hR2.cells)
                go_meet
                exact ⟨hR2.store _, hZ2.kept (heap_set11 (by omega)), b_set11 (b_call hB1 hb2) (by omega)⟩
              case rest =>
                clear e0 e1 e2 e3 e4 e5 e6 e7 e8 e9 e10 ef ez z0 z1 z2 z3 z4 z5 z6 z7 z8 z9 z10 zf zz hpa hR1 hZ1 hB1 hb1
                obtain ⟨hR, hZ, hB⟩ := hcut
                obtain ⟨e0, e1, e2, e3, e4, e5, e6, e7, e8, e9, e10, ef, ez⟩ := hR.cells
                obtain ⟨z0, z1, z2, z3, z4, z5, z6, z7, z8, z9, z10, zf, zz⟩ := hZ.cells
                simp only [Ck.zero] at z0 z1 z2 z3 z4 z5 z6 z7 z8 z9 z10
                go_wp2
                skip
                all_goals
                  apply bodyPost_ret
                  · simp [results, Tryd.results34, go_sem, *]; rfl
                  · rfl
                  · exact ⟨rfl, by (repeat (first | (with_reducible exact Below.refl _ _) | (with_reducible assumption) | (with_reducible refine b_alloc ?_) | (with_reducible refine b_drew ?_) | (with_reducible refine b_drewN ?_) | (with_reducible refine b_set ?_ (by first | (simp; done) | (dsimp only; omega))) | (with_reducible refine b_call ?_ (by assumption))))⟩
            · have h5 : (c.o1 == 0) = false := by simpa [Ck.outsOf] using Hh4.out
              have hpa := fun W => passed_any c t W hok hbb htm
              go_enter Tryd.func34, Tryd.ntmps34
              go_upto_region 9 with (first
                | (go_at_call 42; refine (in_any _ _ _ _).mono ?_; rintro e w' ⟨rfl, rfl⟩)
                | (go_at_call 57; refine (timed_any c t _).mono ?_; rintro e w1 ⟨rfl, hb1⟩; have hR1 : RcAt w1 w.heap.size c := (hb1.block _ (by simp; omega)).trans ((alloc_old _ _ (by simp)).trans (alloc_at w _)); have hZ1 : RcAt w1 (w.heap.size + 1) Ck.zero := (hb1.block _ (by simp)).trans (by have := alloc_at (w.alloc (.cells #[.int .i64 c.tot, .int .i64 c.ext, .int .i64 c.outs, .int .i64 c.len, .int .i64 c.l0, .int .i64 c.l1, .int .i64 c.o0, .int .i64 c.o1, .int .i64 c.now, .int .i64 c.team, .int .i64 c.til] 64)) (.cells #[.int .i64 0, .int .i64 0, .int .i64 0, .int .i64 0, .int .i64 0, .int .i64 0, .int .i64 0, .int .i64 0, .int .i64 0, .int .i64 0, .int .i64 0] 64); simpa [Ck.zero] using this); obtain ⟨e0, e1, e2, e3, e4, e5, e6, e7, e8, e9, e10, ef, ez⟩ := hR1.cells; obtain ⟨z0, z1, z2, z3, z4, z5, z6, z7, z8, z9, z10, zf, zz⟩ := hZ1.cells))
              have hB1 := b_call (b_alloc (b_alloc (Below.refl w.heap.size w))) hb1
              go_cut [] (fun wx => RcAt wx w.heap.size (c.passed t) ∧ RcAt wx (w.heap.size + 1) Ck.zero ∧ Below w.heap.size w wx)
              case first =>
                go_wp2_with (go_at_call 58; refine (hpa _).mono ?_; rintro e w2 ⟨rfl, hb2⟩; have hR2 := hR1.below hb2; have hZ2 := hZ1.below hb2; clear hb1; clear e0 e1 e2 e3 e4 e5 e6 e7 e8 e9 e10 ef ez z0 z1 z2 z3 z4 z5 z6 z7 z8 z9 z10 zf zz hpa; obtain ⟨e0, e1, e2, e3, e4, e5, e6, e7, e8, e9, e10, ef, ez⟩ := hR2.cells)
                go_meet
                exact ⟨hR2.store _, hZ2.kept (heap_set11 (by omega)), b_set11 (b_call hB1 hb2) (by omega)⟩
              case rest =>
                clear e0 e1 e2 e3 e4 e5 e6 e7 e8 e9 e10 ef ez z0 z1 z2 z3 z4 z5 z6 z7 z8 z9 z10 zf zz hpa hR1 hZ1 hB1 hb1
                obtain ⟨hR, hZ, hB⟩ := hcut
                obtain ⟨e0, e1, e2, e3, e4, e5, e6, e7, e8, e9, e10, ef, ez⟩ := hR.cells
                obtain ⟨z0, z1, z2, z3, z4, z5, z6, z7, z8, z9, z10, zf, zz⟩ := hZ.cells
                simp only [Ck.zero] at z0 z1 z2 z3 z4 z5 z6 z7 z8 z9 z10
                go_wp2
                skip
                all_goals
                  apply bodyPost_ret
                  · simp [results, Tryd.results34, go_sem, *]; rfl
                  · rfl
                  · exact ⟨rfl, by (repeat (first | (with_reducible exact Below.refl _ _) | (with_reducible assumption) | (with_reducible refine b_alloc ?_) | (with_reducible refine b_drew ?_) | (with_reducible refine b_drewN ?_) | (with_reducible refine b_set ?_ (by first | (simp; done) | (dsimp only; omega))) | (with_reducible refine b_call ?_ (by assumption))))⟩
      · have h3a : (c.team != team) = true := by simpa using h3
        have hs : c.out team t = (c, 9) := by simp [Ck.out, hw, h3]
        rw [hs]
        clear hw hs
        go_enter Tryd.func34, Tryd.ntmps34
        go_wp2_with (first
          | (go_at_call 42; refine (in_any _ _ _ _).mono ?_; rintro e w' ⟨rfl, rfl⟩)
          | (go_at_call 57; refine (timed_any c t _).mono ?_; rintro e w1 ⟨rfl, hb1⟩; obtain ⟨hc1, hf1⟩ := bcell hb1; have hz1 : w.heap.size + 1 < w1.heap.size := (by have := hb1.size; simp at this; omega); have hz0 : w.heap.size < w1.heap.size := by omega)
          | (go_at_call 58; refine (passed_any c t _ hok hbb htm).mono ?_; rintro e w2 ⟨rfl, hb2⟩; obtain ⟨hc2, hf2⟩ := bcell hb2; have hz2 : w1.heap.size ≤ w2.heap.size := hb2.size))
        all_goals
          apply bodyPost_ret
          · simp [results, Tryd.results34, go_sem, *]; rfl
          · rfl
          · exact ⟨rfl, by (repeat (first | (with_reducible exact Below.refl _ _) | (with_reducible assumption) | (with_reducible refine b_alloc ?_) | (with_reducible refine b_drew ?_) | (with_reducible refine b_drewN ?_) | (with_reducible refine b_set ?_ (by first | (simp; done) | (dsimp only; omega))) | (with_reducible refine b_call ?_ (by assumption))))⟩
    · have hw := wrong_of4 h1 h2
      have h2' := Bool.eq_false_iff.2 h2
      have hs : c.out team t = (c, 4) := by simp [Ck.out, hw]
      rw [hs]
      clear hw hs
      go_enter Tryd.func34, Tryd.ntmps34
      go_wp2_with (first
        | (go_at_call 42; refine (in_any _ _ _ _).mono ?_; rintro e w' ⟨rfl, rfl⟩)
        | (go_at_call 57; refine (timed_any c t _).mono ?_; rintro e w1 ⟨rfl, hb1⟩; obtain ⟨hc1, hf1⟩ := bcell hb1; have hz1 : w.heap.size + 1 < w1.heap.size := (by have := hb1.size; simp at this; omega); have hz0 : w.heap.size < w1.heap.size := by omega)
        | (go_at_call 58; refine (passed_any c t _ hok hbb htm).mono ?_; rintro e w2 ⟨rfl, hb2⟩; obtain ⟨hc2, hf2⟩ := bcell hb2; have hz2 : w1.heap.size ≤ w2.heap.size := hb2.size))
      all_goals
        apply bodyPost_ret
        · simp [results, Tryd.results34, go_sem, *]; rfl
        · rfl
        · exact ⟨rfl, by (repeat (first | (with_reducible exact Below.refl _ _) | (with_reducible assumption) | (with_reducible refine b_alloc ?_) | (with_reducible refine b_drew ?_) | (with_reducible refine b_drewN ?_) | (with_reducible refine b_set ?_ (by first | (simp; done) | (dsimp only; omega))) | (with_reducible refine b_call ?_ (by assumption))))⟩
  · have hw := wrong_of2 (c := c) (t := t) h1
    have h1' := Bool.eq_false_iff.2 h1
    have hs : c.out team t = (c, 2) := by simp [Ck.out, hw]
    rw [hs]
    clear hw hs
    go_enter Tryd.func34, Tryd.ntmps34
    go_wp2_with (first
      | (go_at_call 42; refine (in_any _ _ _ _).mono ?_; rintro e w' ⟨rfl, rfl⟩)
      | (go_at_call 57; refine (timed_any c t _).mono ?_; rintro e w1 ⟨rfl, hb1⟩; obtain ⟨hc1, hf1⟩ := bcell hb1; have hz1 : w.heap.size + 1 < w1.heap.size := (by have := hb1.size; simp at this; omega); have hz0 : w.heap.size < w1.heap.size := by omega)
      | (go_at_call 58; refine (passed_any c t _ hok hbb htm).mono ?_; rintro e w2 ⟨rfl, hb2⟩; obtain ⟨hc2, hf2⟩ := bcell hb2; have hz2 : w1.heap.size ≤ w2.heap.size := hb2.size))
    all_goals
      apply bodyPost_ret
      · simp [results, Tryd.results34, go_sem, *]; rfl
      · rfl
      · exact ⟨rfl, by (repeat (first | (with_reducible exact Below.refl _ _) | (with_reducible assumption) | (with_reducible refine b_alloc ?_) | (with_reducible refine b_drew ?_) | (with_reducible refine b_drewN ?_) | (with_reducible refine b_set ?_ (by first | (simp; done) | (dsimp only; omega))) | (with_reducible refine b_call ?_ (by assumption))))⟩

end Go.Proofs.YtenofigclkbbiaaDoor
