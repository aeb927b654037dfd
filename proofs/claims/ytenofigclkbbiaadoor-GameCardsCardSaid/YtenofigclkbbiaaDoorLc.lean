/-
  GameCards: whether a match is valid, how a game stands, who has the hammer, and its board, are the document's: the walk.
-/
import Derived.Test.YtenofigclkbbiaaDoorAw
import Derived.Test.YtenofigclkbbiaaDoorRb
import Derived.Deep.RegionHeld3
set_option linter.unusedVariables false
set_option linter.unusedSimpArgs false
namespace Go.Proofs.YtenofigclkbbiaaDoor
open Go.RowKit
open Game
theorem stands_of {b g1 g2 : Nat} {w0 W : World} (h1 : b < w0.heap.size) (h2 : g1 < w0.heap.size) (h3 : g2 < w0.heap.size) (h : Below w0.heap.size w0 W) :
    (∀ o, W.cell? ⟨b, o, none⟩ = w0.cell? ⟨b, o, none⟩) ∧ (∀ o, W.cell? ⟨g1, o, none⟩ = w0.cell? ⟨g1, o, none⟩) ∧ (∀ o, W.cell? ⟨g2, o, none⟩ = w0.cell? ⟨g2, o, none⟩) ∧ Below w0.heap.size w0 W :=
  ⟨fun o => h.cell (p := ⟨b, o, none⟩) h1, fun o => h.cell (p := ⟨g1, o, none⟩) h2, fun o => h.cell (p := ⟨g2, o, none⟩) h3, h⟩
set_option maxHeartbeats 8000000 in
set_option maxRecDepth 100000 in
theorem GameCards_walk (m : Mt) (first : Int) (A : Option Addr) (cap : Nat) (card : List Ln) (con : Int) (w : World) (hc : Card w A card) (hcap : card.length ≤ cap) (htab : Tab w) :
    Calls Tryd.prog 3 #[mval m, .int .i64 first, .slice A card.length cap, .int .i64 con] w fun e w' => e = .returned (.bool true) ∧ Below w.heap.size w w' := by
  have haw := fun (W : World) (hW : Below w.heap.size w W) => awake_any W (htab.below hW (Nat.le_refl _))
  by_cases h60 : 60 < card.length
  · have hln := hc.1
    go_enter Tryd.func3, Tryd.ntmps3
    go_wp2_with (go_at_call 10; refine (haw _ (by (repeat (first | (with_reducible exact Below.refl _ _) | (with_reducible assumption) | (with_reducible refine b_alloc ?_) | (with_reducible refine b_drew ?_) | (with_reducible refine b_drewN ?_) | (with_reducible refine b_set ?_ (by first | (simp; done) | (dsimp only; omega))) | (with_reducible refine b_call ?_ (by assumption)))))).mono ?_; rintro e w1 ⟨rfl, hb1⟩)
    go_ret
    exact ⟨rfl, by (repeat (first | (with_reducible exact Below.refl _ _) | (with_reducible assumption) | (with_reducible refine b_alloc ?_) | (with_reducible refine b_drew ?_) | (with_reducible refine b_drewN ?_) | (with_reducible refine b_set ?_ (by first | (simp; done) | (dsimp only; omega))) | (with_reducible refine b_call ?_ (by assumption))))⟩
  · have hpr := fun (W : World) (hW : Below w.heap.size w W) => pReplay_any m first A cap card con W (hc.in_.below hW (Nat.le_refl _) |>.to hW.size)
    have hrr := fun (W : World) (hW : Below w.heap.size w W) => rReplay_any m first A cap card con W (hc.in_.below hW (Nat.le_refl _) |>.to hW.size)
    have hph := fun (W : World) (hW : Below w.heap.size w W) => pHammers_any m first A cap card W (hc.in_.below hW (Nat.le_refl _) |>.to hW.size) hcap
    have hrh := fun (W : World) (hW : Below w.heap.size w W) => rHammers_any m first A cap card W (hc.in_.below hW (Nat.le_refl _) |>.to hW.size) hcap
    have hpb := fun (W : World) (hW : Below w.heap.size w W) => pBoard_any m first A cap card con W (hc.in_.below hW (Nat.le_refl _) |>.to hW.size) hcap (htab.below hW (Nat.le_refl _))
    have hrb := fun (W : World) (hW : Below w.heap.size w W) => rBoard_any m first A cap card con W (hc.in_.below hW (Nat.le_refl _) |>.to hW.size) hcap
    have hpc := fun (W : World) => CheckMatch_any m W
    have hrc := fun (W : World) => rCheckMatch_any m W
    have hhl : (hamsOf m first card).length ≤ 4611686018427387904 := by
      unfold hamsOf
      split
      · rw [List.length_append, List.length_map, List.length_range]
        split <;> simp <;> omega
      · simp
    generalize (replay m first card con).1 = sd at *
    generalize (replay m first card con).2.1 = at1 at *
    generalize (replay m first card con).2.2 = er at *
    generalize hamsOf m first card = hs at *
    generalize (replay m first card (-1)).2.2 = er2 at *
    generalize board m first card con = bt at *
    generalize checkMatch m = cm at *
    have Haw := Lib.hid haw
    have Hpr := Lib.hid hpr
    have Hrr := Lib.hid hrr
    have Hph := Lib.hid hph
    have Hrh := Lib.hid hrh
    have Hpb := Lib.hid hpb
    have Hrb := Lib.hid hrb
    have Hpc := Lib.hid hpc
    have Hrc := Lib.hid hrc
    clear haw hpr hrr hph hrh hpb hrb hpc hrc hc
    go_enter Tryd.func3, Tryd.ntmps3
    go_upto_region 9 with (first
      | (go_at_call 11; refine (Hpr.out _ (by (repeat (first | (with_reducible exact Below.refl _ _) | (with_reducible assumption) | (with_reducible refine b_alloc ?_) | (with_reducible refine b_drew ?_) | (with_reducible refine b_drewN ?_) | (with_reducible refine b_set ?_ (by first | (simp; done) | (dsimp only; omega))) | (with_reducible refine b_call ?_ (by assumption)))))).mono ?_; rintro e w1 ⟨rfl, hb1⟩; have hM1 : MtAt w1 w.heap.size m := (hb1.block _ (by simp)).trans (alloc_at w _); have hB1 := b_call (b_alloc (Below.refl w.heap.size w)) hb1; obtain ⟨q0, q1, q2, q3, q4, qf, qz⟩ := hM1.cells)
      | (go_at_call 12; refine (Hrr.out _ (by (repeat (first | (with_reducible exact Below.refl _ _) | (with_reducible assumption) | (with_reducible refine b_alloc ?_) | (with_reducible refine b_drew ?_) | (with_reducible refine b_drewN ?_) | (with_reducible refine b_set ?_ (by first | (simp; done) | (dsimp only; omega))) | (with_reducible refine b_call ?_ (by assumption)))))).mono ?_; rintro e w2 ⟨rfl, hb2⟩; have hM2 := (hM1.kept (alloc_old w1 (.cells #[.int .i64 sd.p0, .int .i64 sd.p1, .int .i64 sd.ends, .int .i64 sd.hammer, .int .i64 sd.winner, .bool sd.over, .bool sd.extra, .bool sd.w0, .bool sd.w1] 29) qz)).below hb2; have hS2 : StAt w2 w1.heap.size sd := (hb2.block _ (by simp)).trans (alloc_at w1 _); have hB2 := b_call (b_alloc (o := .cells #[.int .i64 sd.p0, .int .i64 sd.p1, .int .i64 sd.ends, .int .i64 sd.hammer, .int .i64 sd.winner, .bool sd.over, .bool sd.extra, .bool sd.w0, .bool sd.w1] 29) hB1) hb2; obtain ⟨r0, r1, r2, r3, r4, rf, rz⟩ := hM2.cells)
      | (go_at_call 13; refine (Hph.out _ (by (repeat (first | (with_reducible exact Below.refl _ _) | (with_reducible assumption) | (with_reducible refine b_alloc ?_) | (with_reducible refine b_drew ?_) | (with_reducible refine b_drewN ?_) | (with_reducible refine b_set ?_ (by first | (simp; done) | (dsimp only; omega))) | (with_reducible refine b_call ?_ (by assumption)))))).mono ?_; rintro e w3 ⟨v3, rfl, hown3, hb3⟩; obtain ⟨A3, ca3, rfl, hR3, hRb3⟩ := own_rd hown3 hhl; have hM3 := (hM2.kept (alloc_old w2 (.cells #[.int .i64 sd.p0, .int .i64 sd.p1, .int .i64 sd.ends, .int .i64 sd.hammer, .int .i64 sd.winner, .bool sd.over, .bool sd.extra, .bool sd.w0, .bool sd.w1] 29) rz)).below hb3; obtain ⟨p0, p1, p2, p3, p4, pf, pz⟩ := hM3.cells)
      | (go_at_call 14; refine (Hrh.out _ (by (repeat (first | (with_reducible exact Below.refl _ _) | (with_reducible assumption) | (with_reducible refine b_alloc ?_) | (with_reducible refine b_drew ?_) | (with_reducible refine b_drewN ?_) | (with_reducible refine b_set ?_ (by first | (simp; done) | (dsimp only; omega))) | (with_reducible refine b_call ?_ (by assumption)))))).mono ?_; rintro e w4 ⟨v4, rfl, hown4, hb4⟩; obtain ⟨A4, ca4, rfl, hR4, hRb4⟩ := own_rd hown4 hhl; have hM4 := hM3.below hb4; obtain ⟨n0, n1, n2, n3, n4, nf, nz⟩ := hM4.cells)
      | (go_at_call 15; refine (Hpb.out _ (by (repeat (first | (with_reducible exact Below.refl _ _) | (with_reducible assumption) | (with_reducible refine b_alloc ?_) | (with_reducible refine b_drew ?_) | (with_reducible refine b_drewN ?_) | (with_reducible refine b_set ?_ (by first | (simp; done) | (dsimp only; omega))) | (with_reducible refine b_call ?_ (by assumption)))))).mono ?_; rintro e w5 ⟨rfl, hb5⟩; have hM5 := hM4.below hb5; obtain ⟨o0, o1, o2, o3, o4, of, oz⟩ := hM5.cells)
      | (go_at_call 16; refine (Hrb.out _ (by (repeat (first | (with_reducible exact Below.refl _ _) | (with_reducible assumption) | (with_reducible refine b_alloc ?_) | (with_reducible refine b_drew ?_) | (with_reducible refine b_drewN ?_) | (with_reducible refine b_set ?_ (by first | (simp; done) | (dsimp only; omega))) | (with_reducible refine b_call ?_ (by assumption)))))).mono ?_; rintro e w6 ⟨rfl, hb6⟩; have hM6 := hM5.below hb6; obtain ⟨l0, l1, l2, l3, l4, lf, lz⟩ := hM6.cells))
    have hz2 : w1.heap.size < w2.heap.size := by have := hb2.size; simp at this; omega
    have hT3 : StAt w3 w2.heap.size sd := (hb3.block _ (by simp)).trans (alloc_at w2 _)
    have hS6 := ((((hS2.kept (alloc_old w2 (.cells #[.int .i64 sd.p0, .int .i64 sd.p1, .int .i64 sd.ends, .int .i64 sd.hammer, .int .i64 sd.winner, .bool sd.over, .bool sd.extra, .bool sd.w0, .bool sd.w1] 29) hz2)).below hb3).below hb4).below hb5).below hb6
    have hT6 := ((hT3.below hb4).below hb5).below hb6
    have hR36 := ((hR3.below hb4 hRb3).below hb5 (fun ad e => by have := hRb3 ad e; have := hb4.size; omega)).below hb6 (fun ad e => by have := hRb3 ad e; have := hb4.size; have := hb5.size; omega)
    have hR46 := (hR4.below hb5 hRb4).below hb6 (fun ad e => by have := hRb4 ad e; have := hb5.size; omega)
    have hRb36 : ∀ ad, A3 = some ad → ad.block < w6.heap.size := fun ad e => by have := hRb3 ad e; have := hb4.size; have := hb5.size; have := hb6.size; omega
    have hRb46 : ∀ ad, A4 = some ad → ad.block < w6.heap.size := fun ad e => by have := hRb4 ad e; have := hb5.size; have := hb6.size; omega
    have hB6 := b_call (b_call (b_call (b_call (b_alloc (o := .cells #[.int .i64 sd.p0, .int .i64 sd.p1, .int .i64 sd.ends, .int .i64 sd.hammer, .int .i64 sd.winner, .bool sd.over, .bool sd.extra, .bool sd.w0, .bool sd.w1] 29) hB2) hb3) hb4) hb5) hb6
    have hint := Lib.hid (fun (W : World) (hW : Below w6.heap.size w6 W) => Ints_any A3 A4 ca3 ca4 hs hs W (hR36.below hW hRb36) (hR46.below hW hRb46))
    have Haw6 := Lib.hid (fun (W : World) (hW : Below w6.heap.size w6 W) => Haw.out W (b_call hB6 hW))
    clear q0 q1 q2 q3 q4 qf qz r0 r1 r2 r3 r4 rf rz p0 p1 p2 p3 p4 pf pz n0 n1 n2 n3 n4 nf nz o0 o1 o2 o3 o4 of oz hb1 hb2 hb3 hb4 hb5 hb6 hM1 hM2 hM3 hM4 hM5 hS2 hT3 hown3 hown4 hR3 hR4 hRb3 hRb4 hB1 hB2 hR36 hR46 Hpr Hrr Hph Hrh Hpb Hrb Haw
    obtain ⟨s0, s1, s2, s3, s4, s5, s6, s7, s8, sf, sz⟩ := hS6.cells
    obtain ⟨t0, t1, t2, t3, t4, t5, t6, t7, t8, tf, tz⟩ := hT6.cells
    have hkeep := Lib.hid (fun (W : World) (h : Below w6.heap.size w6 W) => stands_of (b := w.heap.size) (g1 := w1.heap.size) (g2 := w2.heap.size) lz sz tz h)
    have heq := eq_st sd sd
    simp only [decide_true] at heq
    go_region_held3 (fun W => (∀ o, W.cell? ⟨w.heap.size, o, none⟩ = w6.cell? ⟨w.heap.size, o, none⟩) ∧ (∀ o, W.cell? ⟨w1.heap.size, o, none⟩ = w6.cell? ⟨w1.heap.size, o, none⟩) ∧ (∀ o, W.cell? ⟨w2.heap.size, o, none⟩ = w6.cell? ⟨w2.heap.size, o, none⟩) ∧ Below w6.heap.size w6 W)
      (exact hkeep.out _ (by (repeat (first | (with_reducible exact Below.refl _ _) | (with_reducible assumption) | (with_reducible refine b_alloc ?_) | (with_reducible refine b_drew ?_) | (with_reducible refine b_drewN ?_) | (with_reducible refine b_set ?_ (by first | (simp; done) | (dsimp only; omega))) | (with_reducible refine b_call ?_ (by assumption))))))
      (first
        | (go_at_call 17; refine (Hpc.out _).mono ?_; rintro e w7 ⟨rfl, hb7⟩)
        | (go_at_call 18; refine (Hrc.out _).mono ?_; rintro e w7 ⟨rfl, hb7⟩)
        | (go_at_call 19; refine (hint.out _ (by (repeat (first | (with_reducible exact Below.refl _ _) | (with_reducible assumption) | (with_reducible refine b_alloc ?_) | (with_reducible refine b_drew ?_) | (with_reducible refine b_drewN ?_) | (with_reducible refine b_set ?_ (by first | (simp; done) | (dsimp only; omega))) | (with_reducible refine b_call ?_ (by assumption)))))).mono ?_; rintro e w7 ⟨rfl, hb7⟩)
        | (go_at_call 10; refine (Haw6.out _ (by (repeat (first | (with_reducible exact Below.refl _ _) | (with_reducible assumption) | (with_reducible refine b_alloc ?_) | (with_reducible refine b_drew ?_) | (with_reducible refine b_drewN ?_) | (with_reducible refine b_set ?_ (by first | (simp; done) | (dsimp only; omega))) | (with_reducible refine b_call ?_ (by assumption)))))).mono ?_; rintro e w7 ⟨rfl, hb7⟩))
    go_wp2
    go_ret
    exact ⟨rfl, b_call hB6 (by (repeat (first | (with_reducible exact Below.refl _ _) | (with_reducible assumption) | (with_reducible refine b_alloc ?_) | (with_reducible refine b_drew ?_) | (with_reducible refine b_drewN ?_) | (with_reducible refine b_set ?_ (by first | (simp; done) | (dsimp only; omega))) | (with_reducible refine b_call ?_ (by assumption)))))⟩
end Go.Proofs.YtenofigclkbbiaaDoor
