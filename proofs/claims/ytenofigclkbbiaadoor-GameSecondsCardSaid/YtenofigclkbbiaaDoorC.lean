/-
  The reference goes through a card.
-/
import Derived.Test.YtenofigclkbbiaaDoorB
set_option linter.unusedVariables false
set_option linter.unusedSimpArgs false
namespace Go.Proofs.YtenofigclkbbiaaDoor
open Go.RowKit
open Game

/-- A card in memory. -/
def Card (w : World) (A : Option Addr) (card : List Ln) : Prop :=
  card.length ≤ 9223372036854775807 ∧ (0 < card.length → ∃ ad, A = some ad ∧ ad.block < w.heap.size ∧ ∀ i x, card[i]? = some x →
    w.cell? (ad.add (i * 3)) = some (.int .i64 x.team) ∧ w.cell? ⟨(ad.add (i * 3)).block, (ad.add (i * 3)).off + 1, none⟩ = some (.int .i64 x.points) ∧ w.cell? ⟨(ad.add (i * 3)).block, (ad.add (i * 3)).off + 2, none⟩ = some (.bool x.power))
theorem Card.at_ {w : World} {A : Option Addr} {card : List Ln} (h : Card w A card) {i : Nat} (hi : i < card.length) : ∃ ad x, A = some ad ∧ ad.block < w.heap.size ∧ card[i]? = some x ∧
    w.cell? (ad.add (i * 3)) = some (.int .i64 x.team) ∧ w.cell? ⟨(ad.add (i * 3)).block, (ad.add (i * 3)).off + 1, none⟩ = some (.int .i64 x.points) ∧ w.cell? ⟨(ad.add (i * 3)).block, (ad.add (i * 3)).off + 2, none⟩ = some (.bool x.power) := by
  obtain ⟨ad, e, hb, hc⟩ := h.2 (by omega)
  exact ⟨ad, card[i], e, hb, List.getElem?_eq_getElem hi, hc i _ (List.getElem?_eq_getElem hi)⟩
theorem add_block (a : Addr) (n : Nat) : (a.add n).block = a.block := by unfold Addr.add; split <;> rfl
theorem Card.below {w W : World} {A : Option Addr} {card : List Ln} (h : Card w A card) (hb : Below w.heap.size w W) : Card W A card := by
  refine ⟨h.1, fun hn => ?_⟩
  obtain ⟨ad, e, hlt, hc⟩ := h.2 hn
  refine ⟨ad, e, Nat.lt_of_lt_of_le hlt hb.size, fun i x hx => ?_⟩
  obtain ⟨c1, c2, c3⟩ := hc i x hx
  exact ⟨(hb.cell (by simp only [add_block]; exact hlt)).trans c1, (hb.cell (by simp only [add_block]; exact hlt)).trans c2, (hb.cell (by simp only [add_block]; exact hlt)).trans c3⟩

/-- A standing in a block of its own. -/
def StAt (w : World) (g : Nat) (t : St) : Prop := w.heap[g]? = some (.cells #[.int .i64 t.p0, .int .i64 t.p1, .int .i64 t.ends, .int .i64 t.hammer, .int .i64 t.winner, .bool t.over, .bool t.extra, .bool t.w0, .bool t.w1] 29 (0, 0))
/-- A match in a block of its own. -/
def MtAt (w : World) (g : Nat) (m : Mt) : Prop := w.heap[g]? = some (.cells #[.int .i64 m.ends, .int .i64 m.most, .int .i64 m.early, .bool m.change, .bool m.power] 23 (0, 0))
theorem StAt.cells {w : World} {g : Nat} {t : St} (h : StAt w g t) : w.cell? ⟨g, 0, none⟩ = some (.int .i64 t.p0) ∧ w.cell? ⟨g, 1, none⟩ = some (.int .i64 t.p1) ∧ w.cell? ⟨g, 2, none⟩ = some (.int .i64 t.ends) ∧
    w.cell? ⟨g, 3, none⟩ = some (.int .i64 t.hammer) ∧ w.cell? ⟨g, 4, none⟩ = some (.int .i64 t.winner) ∧ w.cell? ⟨g, 5, none⟩ = some (.bool t.over) ∧ w.cell? ⟨g, 6, none⟩ = some (.bool t.extra) ∧
    w.cell? ⟨g, 7, none⟩ = some (.bool t.w0) ∧ w.cell? ⟨g, 8, none⟩ = some (.bool t.w1) ∧ (∀ o, w.frozen? ⟨g, o, none⟩ = false) ∧ g < w.heap.size := by
  have hl := (Array.getElem?_eq_some_iff.1 h).1
  unfold StAt at h
  refine ⟨?_, ?_, ?_, ?_, ?_, ?_, ?_, ?_, ?_, ?_, hl⟩ <;> simp [World.cell?, World.frozen?, h]
theorem MtAt.cells {w : World} {g : Nat} {m : Mt} (h : MtAt w g m) : w.cell? ⟨g, 0, none⟩ = some (.int .i64 m.ends) ∧ w.cell? ⟨g, 1, none⟩ = some (.int .i64 m.most) ∧ w.cell? ⟨g, 2, none⟩ = some (.int .i64 m.early) ∧
    w.cell? ⟨g, 3, none⟩ = some (.bool m.change) ∧ w.cell? ⟨g, 4, none⟩ = some (.bool m.power) ∧ (∀ o, w.frozen? ⟨g, o, none⟩ = false) ∧ g < w.heap.size := by
  have hl := (Array.getElem?_eq_some_iff.1 h).1
  unfold MtAt at h
  refine ⟨?_, ?_, ?_, ?_, ?_, ?_, hl⟩ <;> simp [World.cell?, World.frozen?, h]
theorem StAt.kept {w W : World} {g : Nat} {t : St} (h : StAt w g t) (hb : W.heap[g]? = w.heap[g]?) : StAt W g t := hb.trans h
theorem MtAt.kept {w W : World} {g : Nat} {m : Mt} (h : MtAt w g m) (hb : W.heap[g]? = w.heap[g]?) : MtAt W g m := hb.trans h
theorem StAt.below {w W : World} {g : Nat} {t : St} (h : StAt w g t) (hb : Below w.heap.size w W) : StAt W g t := h.kept (hb.block g (Array.getElem?_eq_some_iff.1 h).1)
theorem MtAt.below {w W : World} {g : Nat} {m : Mt} (h : MtAt w g m) (hb : Below w.heap.size w W) : MtAt W g m := h.kept (hb.block g (Array.getElem?_eq_some_iff.1 h).1)
/-- All of a standing is written. -/
theorem StAt.store {w : World} {g : Nat} {t : St} (h : StAt w g t) (u : St) : StAt (((((((((w.setCell ⟨g, 0, none⟩ (.int .i64 u.p0)).setCell ⟨g, 1, none⟩ (.int .i64 u.p1)).setCell ⟨g, 2, none⟩ (.int .i64 u.ends)).setCell ⟨g, 3, none⟩ (.int .i64 u.hammer)).setCell
    ⟨g, 4, none⟩ (.int .i64 u.winner)).setCell ⟨g, 5, none⟩ (.bool u.over)).setCell ⟨g, 6, none⟩ (.bool u.extra)).setCell ⟨g, 7, none⟩ (.bool u.w0)).setCell ⟨g, 8, none⟩ (.bool u.w1)) g u := by
  unfold StAt at h ⊢
  simp [World.setCell, Array.getElem?_modify, h]
theorem heap_set {w : World} {a : Addr} {v : Value} {k : Nat} (h : k ≠ a.block) : (w.setCell a v).heap[k]? = w.heap[k]? := Below.heap_setCell w a v k h
/-- Nine stores into one block: the others lie as they lay. -/
theorem heap_set9 {w : World} {g k : Nat} {a0 a1 a2 a3 a4 a5 a6 a7 a8 : Value} (h : k ≠ g) :
    (((((((((w.setCell ⟨g, 0, none⟩ a0).setCell ⟨g, 1, none⟩ a1).setCell ⟨g, 2, none⟩ a2).setCell ⟨g, 3, none⟩ a3).setCell ⟨g, 4, none⟩ a4).setCell ⟨g, 5, none⟩ a5).setCell ⟨g, 6, none⟩ a6).setCell ⟨g, 7, none⟩ a7).setCell ⟨g, 8, none⟩ a8).heap[k]? = w.heap[k]? := by
  rw [heap_set h, heap_set h, heap_set h, heap_set h, heap_set h, heap_set h, heap_set h, heap_set h, heap_set h]
theorem b_set9 {w0 w : World} {g : Nat} {a0 a1 a2 a3 a4 a5 a6 a7 a8 : Value} (h : Below w0.heap.size w0 w) (hg : w0.heap.size ≤ g) :
    Below w0.heap.size w0 (((((((((w.setCell ⟨g, 0, none⟩ a0).setCell ⟨g, 1, none⟩ a1).setCell ⟨g, 2, none⟩ a2).setCell ⟨g, 3, none⟩ a3).setCell ⟨g, 4, none⟩ a4).setCell ⟨g, 5, none⟩ a5).setCell ⟨g, 6, none⟩ a6).setCell ⟨g, 7, none⟩ a7).setCell ⟨g, 8, none⟩ a8) :=
  b_set (b_set (b_set (b_set (b_set (b_set (b_set (b_set (b_set h hg) hg) hg) hg) hg) hg) hg) hg) hg
set_option maxHeartbeats 1000000 in
theorem rReplay_1 (m : Mt) (first : Int) (A : Option Addr) (cap : Nat) (card : List Ln) (con : Int) (w : World) (h1 : checkMatch m = false) :
    Calls Tryd.prog 12 #[mval m, .int .i64 first, .slice A card.length cap, .int .i64 con] w fun e w' => e = .returned (.tuple #[sval St.zero, .int .i64 (-1), .int .i64 2]) ∧ Below w.heap.size w w' := by
  go_enter Tryd.func12, Tryd.ntmps12
  go_wp2_with (first
    | (go_at_call 18; refine (rCheckMatch_any _ _).mono ?_; rintro e w1 ⟨rfl, hb1⟩; obtain ⟨hc1, hf1⟩ := bcell hb1; have hz1 : w.heap.size + 1 < w1.heap.size := by have := hb1.size; simp at this; omega)
    | (go_at_call 42; refine (in_any _ _ _ _).mono ?_; rintro e w' ⟨rfl, rfl⟩)
    | (go_at_call 43; refine (begun_any _ _).mono ?_; rintro e w2 ⟨rfl, hb2⟩; obtain ⟨hc2, hf2⟩ := bcell hb2; have hz2 : w1.heap.size ≤ w2.heap.size := hb2.size))
  all_goals
    apply bodyPost_ret
    · simp [results, Tryd.results12, go_sem, *]; rfl
    · rfl
    · exact ⟨rfl, by (repeat (first | (with_reducible exact Below.refl _ _) | (with_reducible refine b_alloc ?_) | (with_reducible refine b_drew ?_) | (with_reducible refine b_drewN ?_) | (with_reducible refine b_set ?_ (by first | (simp; done) | (dsimp only; omega))) | (with_reducible refine b_call ?_ (by assumption))))⟩
set_option maxHeartbeats 1000000 in
theorem rReplay_2 (m : Mt) (first : Int) (A : Option Addr) (cap : Nat) (card : List Ln) (con : Int) (w : World) (h1 : checkMatch m = true) (h2 : wi first 0 1 = false) :
    Calls Tryd.prog 12 #[mval m, .int .i64 first, .slice A card.length cap, .int .i64 con] w fun e w' => e = .returned (.tuple #[sval St.zero, .int .i64 (-1), .int .i64 2]) ∧ Below w.heap.size w w' := by
  go_enter Tryd.func12, Tryd.ntmps12
  go_wp2_with (first
    | (go_at_call 18; refine (rCheckMatch_any _ _).mono ?_; rintro e w1 ⟨rfl, hb1⟩; obtain ⟨hc1, hf1⟩ := bcell hb1; have hz1 : w.heap.size + 1 < w1.heap.size := by have := hb1.size; simp at this; omega)
    | (go_at_call 42; refine (in_any _ _ _ _).mono ?_; rintro e w' ⟨rfl, rfl⟩)
    | (go_at_call 43; refine (begun_any _ _).mono ?_; rintro e w2 ⟨rfl, hb2⟩; obtain ⟨hc2, hf2⟩ := bcell hb2; have hz2 : w1.heap.size ≤ w2.heap.size := hb2.size))
  all_goals
    apply bodyPost_ret
    · simp [results, Tryd.results12, go_sem, *]; rfl
    · rfl
    · exact ⟨rfl, by (repeat (first | (with_reducible exact Below.refl _ _) | (with_reducible refine b_alloc ?_) | (with_reducible refine b_drew ?_) | (with_reducible refine b_drewN ?_) | (with_reducible refine b_set ?_ (by first | (simp; done) | (dsimp only; omega))) | (with_reducible refine b_call ?_ (by assumption))))⟩
set_option maxHeartbeats 1000000 in
theorem rReplay_3 (m : Mt) (first : Int) (A : Option Addr) (cap : Nat) (card : List Ln) (con : Int) (w : World) (h1 : checkMatch m = true) (h2 : wi first 0 1 = true) (h3 : wi con (-1) 1 = false) :
    Calls Tryd.prog 12 #[mval m, .int .i64 first, .slice A card.length cap, .int .i64 con] w fun e w' => e = .returned (.tuple #[sval St.zero, .int .i64 (-1), .int .i64 2]) ∧ Below w.heap.size w w' := by
  go_enter Tryd.func12, Tryd.ntmps12
  go_wp2_with (first
    | (go_at_call 18; refine (rCheckMatch_any _ _).mono ?_; rintro e w1 ⟨rfl, hb1⟩; obtain ⟨hc1, hf1⟩ := bcell hb1; have hz1 : w.heap.size + 1 < w1.heap.size := by have := hb1.size; simp at this; omega)
    | (go_at_call 42; refine (in_any _ _ _ _).mono ?_; rintro e w' ⟨rfl, rfl⟩)
    | (go_at_call 43; refine (begun_any _ _).mono ?_; rintro e w2 ⟨rfl, hb2⟩; obtain ⟨hc2, hf2⟩ := bcell hb2; have hz2 : w1.heap.size ≤ w2.heap.size := hb2.size))
  all_goals
    apply bodyPost_ret
    · simp [results, Tryd.results12, go_sem, *]; rfl
    · rfl
    · exact ⟨rfl, by (repeat (first | (with_reducible exact Below.refl _ _) | (with_reducible refine b_alloc ?_) | (with_reducible refine b_drew ?_) | (with_reducible refine b_drewN ?_) | (with_reducible refine b_set ?_ (by first | (simp; done) | (dsimp only; omega))) | (with_reducible refine b_call ?_ (by assumption))))⟩
set_option maxHeartbeats 1000000 in
theorem rReplay_4 (m : Mt) (first : Int) (A : Option Addr) (cap : Nat) (card : List Ln) (con : Int) (w : World) (h1 : checkMatch m = true) (h2 : wi first 0 1 = true) (h3 : wi con (-1) 1 = true) (h4 : 40 < card.length) :
    Calls Tryd.prog 12 #[mval m, .int .i64 first, .slice A card.length cap, .int .i64 con] w fun e w' => e = .returned (.tuple #[sval St.zero, .int .i64 (-1), .int .i64 3]) ∧ Below w.heap.size w w' := by
  go_enter Tryd.func12, Tryd.ntmps12
  go_wp2_with (first
    | (go_at_call 18; refine (rCheckMatch_any _ _).mono ?_; rintro e w1 ⟨rfl, hb1⟩; obtain ⟨hc1, hf1⟩ := bcell hb1; have hz1 : w.heap.size + 1 < w1.heap.size := by have := hb1.size; simp at this; omega)
    | (go_at_call 42; refine (in_any _ _ _ _).mono ?_; rintro e w' ⟨rfl, rfl⟩)
    | (go_at_call 43; refine (begun_any _ _).mono ?_; rintro e w2 ⟨rfl, hb2⟩; obtain ⟨hc2, hf2⟩ := bcell hb2; have hz2 : w1.heap.size ≤ w2.heap.size := hb2.size))
  all_goals
    apply bodyPost_ret
    · simp [results, Tryd.results12, go_sem, *]; rfl
    · rfl
    · exact ⟨rfl, by (repeat (first | (with_reducible exact Below.refl _ _) | (with_reducible refine b_alloc ?_) | (with_reducible refine b_drew ?_) | (with_reducible refine b_drewN ?_) | (with_reducible refine b_set ?_ (by first | (simp; done) | (dsimp only; omega))) | (with_reducible refine b_call ?_ (by assumption))))⟩
set_option maxHeartbeats 4000000 in
set_option maxRecDepth 100000 in
theorem rReplay_5 (m : Mt) (first : Int) (A : Option Addr) (cap : Nat) (card : List Ln) (con : Int) (w : World) (hc : Card w A card) (h1 : checkMatch m = true) (h2 : wi first 0 1 = true) (h3 : wi con (-1) 1 = true) (h4 : card.length ≤ 40) :
    Calls Tryd.prog 12 #[mval m, .int .i64 first, .slice A card.length cap, .int .i64 con] w fun e w' =>
      e = .returned (.tuple #[sval (replay m first card con).1, .int .i64 (replay m first card con).2.1, .int .i64 (replay m first card con).2.2]) ∧ Below w.heap.size w w' := by
  go_enter Tryd.func12, Tryd.ntmps12
  go_wp2_with (first
    | (go_at_call 18; refine (rCheckMatch_any _ _).mono ?_; rintro e w1 ⟨rfl, hb1⟩; obtain ⟨hc1, hf1⟩ := bcell hb1; have hz1 : w.heap.size + 1 < w1.heap.size := by have := hb1.size; simp at this; omega)
    | (go_at_call 42; refine (in_any _ _ _ _).mono ?_; rintro e w' ⟨rfl, rfl⟩)
    | (go_at_call 43; refine (begun_any _ _).mono ?_; rintro e w2 ⟨rfl, hb2⟩; obtain ⟨hc2, hf2⟩ := bcell hb2; have hz2 : w1.heap.size ≤ w2.heap.size := hb2.size))
  have hb2' := b_call (b_call (b_alloc (b_alloc (Below.refl w.heap.size w))) hb1) hb2
  have hW : w.heap.size + 1 < w2.heap.size := by omega
  have hM : MtAt w2 w.heap.size m := by
    refine MtAt.kept (w := w1) ?_ (hb2.block _ (by omega))
    exact (hb1.block _ (by simp; omega)).trans ((alloc_old _ _ (by simp)).trans (alloc_at w _))
  have hZ : StAt w2 (w.heap.size + 1) St.zero := by
    refine StAt.kept (w := w1) ?_ (hb2.block _ (by omega))
    exact (hb1.block _ (by simp)).trans (by have := alloc_at (w.alloc (.cells #[.int .i64 m.ends, .int .i64 m.most, .int .i64 m.early, .bool m.change, .bool m.power] 23)) (.cells #[.int .i64 0, .int .i64 0, .int .i64 0, .int .i64 0, .int .i64 0, .bool false, .bool false, .bool false, .bool false] 29); simpa [St.zero] using this)
  have hm8 : m.most ≤ 8 := by simp [checkMatch] at h1; omega
  have hI0 := Inv.begun h2
  clear hc1 hf1 hc2 hf2
  go_loopw [12] (fun i wr => ∃ (k : Nat) (t : St), k ≤ card.length ∧ i = .int .i64 k ∧ Inv t k ∧ walk m (St.begun first) 0 card = walk m t k (card.drop k) ∧ StAt wr w2.heap.size t ∧ StAt wr (w.heap.size + 1) St.zero ∧ MtAt wr w.heap.size m ∧ Below w.heap.size w wr)
    (fun i _ => card.length - (intOf i).toNat)
  case atStart =>
    exact ⟨0, St.begun first, by omega, rfl, hI0, rfl, alloc_at w2 _, hZ.kept (alloc_old _ _ (by omega)), hM.kept (alloc_old _ _ (by omega)), b_alloc hb2'⟩
  case round =>
    obtain ⟨k, t, hk, rfl, hI, hwalk, hS, hZr, hMt, hB⟩ := hrel
    have hCd := hc.below hB
    clear hZ hM hI0 hb1 hb2 hb2' hz1 hz2
    obtain ⟨s0, s1, s2, s3, s4, s5, s6, s7, s8, sf, sz⟩ := hS.cells
    obtain ⟨z0, z1, z2, z3, z4, z5, z6, z7, z8, zf, zz⟩ := hZr.cells
    simp only [St.zero] at z0 z1 z2 z3 z4 z5 z6 z7 z8
    obtain ⟨m0, m1, m2, m3, m4, mf, mz⟩ := hMt.cells
    by_cases hlt : k < card.length
    · obtain ⟨ad, x, rfl, hadb, hx, x0, x1, x2⟩ := hCd.at_ hlt
      go_wp2
      go_still_tail 6, (by kernel_rfl)
      change wpList _ _ _ _ _ wr.drew
      have hfit := fits_any m t x wr.drew hI.ham
      go_wp2_with fail
      refine hfit.mono ?_
      rintro e w3 ⟨rfl, hb3⟩
      have hb3' := b_call (b_drew (Below.refl wr.heap.size wr)) hb3
      clear hfit hb3
      obtain ⟨hc3, hf3⟩ := bcell hb3'
      have hz3 : wr.heap.size ≤ w3.heap.size := hb3'.size
      have y0 := (hb3'.cell (p := ad.add (k * 3)) (by rw [add_block]; exact hadb)).trans x0
      have y1 := (hb3'.cell (p := ⟨(ad.add (k * 3)).block, (ad.add (k * 3)).off + 1, none⟩) (by simp only [add_block]; exact hadb)).trans x1
      have y2 := (hb3'.cell (p := ⟨(ad.add (k * 3)).block, (ad.add (k * 3)).off + 2, none⟩) (by simp only [add_block]; exact hadb)).trans x2
      by_cases hfx : fits m t x = true
      · obtain ⟨f1, f2, f3, f4, f5⟩ := fits_parts hfx
        have hbeh := behind_any m t x w3.drew f2 (fun hp => hI.ham f1) (by have := hI.p0; omega) (by have := hI.p1; omega) (by omega) (by have := hI.ends; omega) hI.low
        clear f1 f2 f3 f4 f5
        go_wp2
        go_still_tail 6, (by kernel_rfl)
        change wpList _ _ _ _ _ w3.drew
        go_wp2_with fail
        refine hbeh.mono ?_
        rintro e w4 ⟨rfl, hb4⟩
        have hb4' := b_call (b_drew (Below.refl w3.heap.size w3)) hb4
        clear hbeh hb4
        have hS4 := (hS.below hb3').below hb4'
        obtain ⟨t0, t1, t2, t3, t4, t5, t6, t7, t8, tf, tz⟩ := hS4.cells
        clear hc3 hf3 y0 y1 y2 x0 x1 x2 s0 s1 s2 s3 s4 s5 s6 s7 s8 z0 z1 z2 z3 z4 z5 z6 z7 z8 m0 m1 m2 m3 m4
        go_wp2
        go_roundw
        case rel =>
          refine ⟨k + 1, behind m t x, by omega, by go_num, hI.behind hfx hm8, ?_, hS4.store _, ?_, ?_, b_set9 (b_call (b_call hB hb3') hb4') (by omega)⟩
          · rw [hwalk, drop_at hx, walk_step hfx]
          · exact ((hZr.below hb3').below hb4').kept (heap_set9 (by omega))
          · exact ((hMt.below hb3').below hb4').kept (heap_set9 (by omega))
        case measure => simp [intOf]; omega
      · have hr : replay m first card con = (St.zero, (k : Int), 2) := by
          simp [replay, h1, h2, h3, hwalk, drop_at hx, walk_stop (Bool.eq_false_iff.2 hfx)]; omega
        have hr' := Lib.hid hr
        clear hr
        go_wp2
        all_goals
          apply bodyPost_ret
          · simp [results, Tryd.results12, go_sem, *]; rfl
          · rfl
          · exact ⟨by rw [hr'.out]; rfl, b_set9 (b_call hB hb3') (by omega)⟩
    · obtain rfl : k = card.length := by omega
      rw [List.drop_length] at hwalk
      have hr0 : replay m first card con = (if con = -1 then (t, -1, 0) else if t.over = true ∨ t.ends < m.early then (St.zero, (card.length : Int), 9) else (t.ended (1 - con), -1, 0)) := by
        simp [replay, h1, h2, h3, hwalk, walk]; omega
      have hcb : con = -1 ∨ con = 0 ∨ con = 1 := by simp [wi] at h3; omega
      rcases hcb with rfl | hcb
      · have hr' := Lib.hid hr0
        clear hr0
        go_wp2
        all_goals
          apply bodyPost_ret
          · simp [results, Tryd.results12, go_sem, *]; rfl
          · rfl
          · exact ⟨by rw [hr'.out]; rfl, b_set9 hB (by omega)⟩
      · have hne : con ≠ -1 := by omega
        rw [if_neg hne] at hr0
        have hpos : 0 ≤ con := by omega
        by_cases ho : t.over = true
        · rw [if_pos (.inl ho)] at hr0
          have hr' := Lib.hid hr0
          clear hr0
          go_wp2
          all_goals
            apply bodyPost_ret
            · simp [results, Tryd.results12, go_sem, *]; rfl
            · rfl
            · exact ⟨by rw [hr'.out]; rfl, by (repeat (first | (with_reducible exact Below.refl _ _) | (with_reducible assumption) | (with_reducible refine b_alloc ?_) | (with_reducible refine b_drew ?_) | (with_reducible refine b_drewN ?_) | (with_reducible refine b_set ?_ (by first | (simp; done) | (dsimp only; omega))) | (with_reducible refine b_call ?_ (by assumption))))⟩
        · by_cases he : t.ends < m.early
          · rw [if_pos (.inr he)] at hr0
            have hr' := Lib.hid hr0
            clear hr0
            go_wp2
            all_goals
              apply bodyPost_ret
              · simp [results, Tryd.results12, go_sem, *]; rfl
              · rfl
              · exact ⟨by rw [hr'.out]; rfl, by (repeat (first | (with_reducible exact Below.refl _ _) | (with_reducible assumption) | (with_reducible refine b_alloc ?_) | (with_reducible refine b_drew ?_) | (with_reducible refine b_drewN ?_) | (with_reducible refine b_set ?_ (by first | (simp; done) | (dsimp only; omega))) | (with_reducible refine b_call ?_ (by assumption))))⟩
          · rw [if_neg (by rintro (h | h); exact ho h; exact he h)] at hr0
            have hr' := Lib.hid hr0
            clear hr0
            go_wp2
            all_goals
              apply bodyPost_ret
              · simp [results, Tryd.results12, go_sem, *]; rfl
              · rfl
              · exact ⟨by rw [hr'.out]; rfl, by (repeat (first | (with_reducible exact Below.refl _ _) | (with_reducible assumption) | (with_reducible refine b_alloc ?_) | (with_reducible refine b_drew ?_) | (with_reducible refine b_drewN ?_) | (with_reducible refine b_set ?_ (by first | (simp; done) | (dsimp only; omega))) | (with_reducible refine b_call ?_ (by assumption))))⟩
theorem rReplay_any (m : Mt) (first : Int) (A : Option Addr) (cap : Nat) (card : List Ln) (con : Int) (w : World) (hc : Card w A card) :
    Calls Tryd.prog 12 #[mval m, .int .i64 first, .slice A card.length cap, .int .i64 con] w fun e w' =>
      e = .returned (.tuple #[sval (replay m first card con).1, .int .i64 (replay m first card con).2.1, .int .i64 (replay m first card con).2.2]) ∧ Below w.heap.size w w' := by
  by_cases h1 : checkMatch m = true
  · by_cases h2 : wi first 0 1 = true
    · by_cases h3 : wi con (-1) 1 = true
      · by_cases h4 : card.length ≤ 40
        · exact rReplay_5 m first A cap card con w hc h1 h2 h3 h4
        · have e : replay m first card con = (St.zero, -1, 3) := by simp [replay, h1, h2, h3]; omega
          rw [e]
          exact rReplay_4 m first A cap card con w h1 h2 h3 (by omega)
      · have h3' := Bool.eq_false_iff.2 h3
        have e : replay m first card con = (St.zero, -1, 2) := by simp [replay, h1, h2, h3']
        rw [e]
        exact rReplay_3 m first A cap card con w h1 h2 h3'
    · have h2' := Bool.eq_false_iff.2 h2
      have e : replay m first card con = (St.zero, -1, 2) := by simp [replay, h1, h2']
      rw [e]
      exact rReplay_2 m first A cap card con w h1 h2'
  · have h1' := Bool.eq_false_iff.2 h1
    have e : replay m first card con = (St.zero, -1, 2) := by simp [replay, h1']
    rw [e]
    exact rReplay_1 m first A cap card con w h1'
end Go.Proofs.YtenofigclkbbiaaDoor
