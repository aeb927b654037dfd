/-
  The clock of the reference: what is left; a clock of the program's and one of the reference's told alike.
-/
import Derived.Test.YtenofigclkbbiaaDoorW
set_option linter.unusedVariables false
set_option linter.unusedSimpArgs false
namespace Go.Proofs.YtenofigclkbbiaaDoor
open Go.RowKit
open Game
set_option maxHeartbeats 1000000 in
set_option maxRecDepth 100000 in
theorem rLeft_any (c : Ck) (team t : Int) (w : World) (hok : c.Ok) (htm : c.team = -1 ∨ c.team = 0 ∨ c.team = 1) :
    Calls Tryd.prog 36 #[rval c, .int .i64 team, .int .i64 t] w fun e w' => e = .returned (.tuple #[.int .i64 (if c.wrong team t = 0 then c.left team t else 0), .int .i64 (c.wrong team t)]) ∧ Below w.heap.size w w' := by
  by_cases h1 : wi team 0 1 = true
  · by_cases h2 : wi t c.now 1073741824 = true
    · have hw := wrong_of h1 h2
      obtain ⟨a1, a2, a3⟩ := Ck.wrong_0 hw
      have hbb : 0 ≤ t ∧ t ≤ 1073741824 := ⟨by have := hok.now; omega, a3⟩
      rw [if_pos hw, hw]
      clear hw
      have hpa := fun W => passed_any c t W hok hbb htm
      have hfd : ∀ (d : Ck) (w : World), (Instr.field 64 (rval d) 1).run Tryd.prog w = .ok (.agg #[.int .i64 d.l0, .int .i64 d.l1]) w := fun _ _ => by kernel_rfl
      have hi0 : ∀ (a b : Value) (w : World), (Instr.index 26 (.agg #[a, b]) (.int .i64 0)).run Tryd.prog w = .ok a w := fun _ _ _ => by kernel_rfl
      have hi1 : ∀ (a b : Value) (w : World), (Instr.index 26 (.agg #[a, b]) (.int .i64 1)).run Tryd.prog w = .ok b w := fun _ _ _ => by kernel_rfl
      rcases a1 with rfl | rfl
      all_goals
        go_enter Tryd.func36, Tryd.ntmps36
        go_wp2_with (first
          | (go_at_call 42; refine (in_any _ _ _ _).mono ?_; rintro e w' ⟨rfl, rfl⟩)
          | (go_at_call 57; refine (timed_any c t _).mono ?_; rintro e w1 ⟨rfl, hb1⟩; have hR1 : RcAt w1 w.heap.size c := (hb1.block _ (by simp)).trans (alloc_at w _); obtain ⟨e0, e1, e2, e3, e4, e5, e6, e7, e8, e9, e10, ef, ez⟩ := hR1.cells)
          | (go_at_call 58; refine (hpa _).mono ?_; rintro e w2 ⟨rfl, hb2⟩))
        go_ret2
        exact ⟨rfl, by (repeat (first | (with_reducible exact Below.refl _ _) | (with_reducible assumption) | (with_reducible refine b_alloc ?_) | (with_reducible refine b_drew ?_) | (with_reducible refine b_drewN ?_) | (with_reducible refine b_set ?_ (by first | (simp; done) | (dsimp only; omega))) | (with_reducible refine b_call ?_ (by assumption))))⟩
    · rw [wrong_of4 h1 h2]
      have h2' := Bool.eq_false_iff.2 h2
      go_enter Tryd.func36, Tryd.ntmps36
      go_wp2_with (first
        | (go_at_call 42; refine (in_any _ _ _ _).mono ?_; rintro e w' ⟨rfl, rfl⟩)
        | (go_at_call 57; refine (timed_any c t _).mono ?_; rintro e w1 ⟨rfl, hb1⟩))
      go_ret2
      exact ⟨rfl, by (repeat (first | (with_reducible exact Below.refl _ _) | (with_reducible assumption) | (with_reducible refine b_alloc ?_) | (with_reducible refine b_drew ?_) | (with_reducible refine b_drewN ?_) | (with_reducible refine b_set ?_ (by first | (simp; done) | (dsimp only; omega))) | (with_reducible refine b_call ?_ (by assumption))))⟩
  · rw [wrong_of2 h1]
    have h1' := Bool.eq_false_iff.2 h1
    go_enter Tryd.func36, Tryd.ntmps36
    go_wp2_with (go_at_call 42; refine (in_any _ _ _ _).mono ?_; rintro e w' ⟨rfl, rfl⟩)
    go_ret2
    exact ⟨rfl, by (repeat (first | (with_reducible exact Below.refl _ _) | (with_reducible assumption) | (with_reducible refine b_alloc ?_) | (with_reducible refine b_drew ?_) | (with_reducible refine b_drewN ?_) | (with_reducible refine b_set ?_ (by first | (simp; done) | (dsimp only; omega))) | (with_reducible refine b_call ?_ (by assumption))))⟩
set_option maxHeartbeats 1000000 in
set_option maxRecDepth 100000 in
theorem alike_any (g : Nat) (c : Ck) (w : World) (h : CkAt w g c) (hok : c.Ok) (htm : c.team = -1 ∨ c.team = 0 ∨ c.team = 1) :
    Calls Tryd.prog 37 #[.pointer (some ⟨g, 0, none⟩), rval c] w fun e w' => e = .returned (.bool true) ∧ Below w.heap.size w w' := by
  have hgz := h.z
  have hru := fun (W : World) (hW : Below w.heap.size w W) => Running_any g c W (h.below hW hgz)
  have hcl := fun (W : World) (hW : Below w.heap.size w W) (k t : Int) => cLeft_any g c k t W (h.below hW hgz) hok
  have hco := fun (W : World) (hW : Below w.heap.size w W) (k : Int) => cOuts_any g c k W (h.below hW hgz)
  have Hcl := Lib.hid hcl
  have Hco := Lib.hid hco
  clear hcl hco
  go_enter Tryd.func37, Tryd.ntmps37
  go_wp2_with (go_at_call 22; refine (hru _ (by (repeat (first | (with_reducible exact Below.refl _ _) | (with_reducible assumption) | (with_reducible refine b_alloc ?_) | (with_reducible refine b_drew ?_) | (with_reducible refine b_drewN ?_) | (with_reducible refine b_set ?_ (by first | (simp; done) | (dsimp only; omega))) | (with_reducible refine b_call ?_ (by assumption)))))).mono ?_; rintro e w1 ⟨rfl, hb1⟩; have hR1 : RcAt w1 w.heap.size c := (hb1.block _ (by simp)).trans (alloc_at w _); obtain ⟨e0, e1, e2, e3, e4, e5, e6, e7, e8, e9, e10, ef, ez⟩ := hR1.cells)
  have hB1 := b_call (b_alloc (Below.refl w.heap.size w)) hb1
  clear hb1 e0 e1 e2 e3 e4 e5 e6 e7 e8 e9 e10 ef ez hru
  go_loopw [7] (fun i wr => ∃ k : Int, -1 ≤ k ∧ k ≤ 3 ∧ i = .int .i64 k ∧ RcAt wr w.heap.size c ∧ Below w.heap.size w wr) (fun i _ => (3 - intOf i).toNat)
  case atStart => exact ⟨-1, by omega, by omega, rfl, hR1, hB1⟩
  case round =>
    clear hR1 hB1
    obtain ⟨k, hk0, hk1, rfl, hR, hB⟩ := hrel
    obtain ⟨e0, e1, e2, e3, e4, e5, e6, e7, e8, e9, e10, ef, ez⟩ := hR.cells
    by_cases hlt : k ≤ 2
    · have q1 := fun W hW => Hcl.out W hW k c.now
      have q2 := fun W => rLeft_any c k c.now W hok htm
      have q3 := fun W hW => Hco.out W hW k
      have q4 := fun W => rOuts_any c k W
      generalize (if c.wrong k c.now = 0 then c.left k c.now else 0) = x1 at q1 q2
      generalize c.wrong k c.now = x2 at q1 q2
      generalize (if wi k 0 1 = true then c.outsOf k else 0) = x3 at q3 q4
      generalize (if wi k 0 1 = true then (0 : Int) else 2) = x4 at q3 q4
      go_wp2_with fail
      refine (q1 _ hB).mono ?_
      rintro e w2 ⟨rfl, hb2⟩
      have hR2 := hR.below hb2
      have hB2 := b_call hB hb2
      clear e0 e1 e2 e3 e4 e5 e6 e7 e8 e9 e10 ef ez
      obtain ⟨e0, e1, e2, e3, e4, e5, e6, e7, e8, e9, e10, ef, ez⟩ := hR2.cells
      go_wp2_with fail
      refine (q2 _).mono ?_
      rintro e w3 ⟨rfl, hb3⟩
      have hR3 := hR2.below hb3
      have hB3 := b_call hB2 hb3
      clear e0 e1 e2 e3 e4 e5 e6 e7 e8 e9 e10 ef ez
      obtain ⟨e0, e1, e2, e3, e4, e5, e6, e7, e8, e9, e10, ef, ez⟩ := hR3.cells
      go_wp2_with fail
      refine (q3 _ hB3).mono ?_
      rintro e w4 ⟨rfl, hb4⟩
      have hR4 := hR3.below hb4
      have hB4 := b_call hB3 hb4
      clear e0 e1 e2 e3 e4 e5 e6 e7 e8 e9 e10 ef ez
      obtain ⟨e0, e1, e2, e3, e4, e5, e6, e7, e8, e9, e10, ef, ez⟩ := hR4.cells
      go_wp2_with fail
      refine (q4 _).mono ?_
      rintro e w5 ⟨rfl, hb5⟩
      have hR5 := hR4.below hb5
      have hB5 := b_call hB4 hb5
      clear e0 e1 e2 e3 e4 e5 e6 e7 e8 e9 e10 ef ez
      clear hR hB hb2 hb3 hb4 hb5 hR2 hR3 hR4 hB2 hB3 hB4
      clear q1 q2 q3 q4
      go_wp2_with fail
      go_roundw
      case rel => exact ⟨k + 1, by omega, by omega, by go_num, hR5, hB5⟩
      case measure => simp [intOf]; omega
    · go_wp2
      go_ret
      exact ⟨rfl, hB⟩
end Go.Proofs.YtenofigclkbbiaaDoor
