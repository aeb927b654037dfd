/-
  The laws' first words: results that the document fixes.
-/
import Derived.Test.YtenofigclkbbiaaDoorPb
import Derived.Test.YtenofigclkbbiaaDoorQ
import Derived.Test.YtenofigclkbbiaaDoorEq
import Derived.Deep.RegionWith
import Derived.Deep.DeepCutAuto
set_option linter.unusedVariables false
set_option linter.unusedSimpArgs false
namespace Go.Proofs.YtenofigclkbbiaaDoor
namespace Game
def awM : Mt := ⟨3, 8, 2, false, true⟩
def awCard : List Ln := [⟨0, 2, true⟩, ⟨-1, 0, false⟩, ⟨1, 1, false⟩]
theorem aw_replay : replay awM 0 awCard (-1) = (⟨2, 1, 3, -1, 0, true, false, true, false⟩, -1, 0) := by decide
theorem aw_one : replay awM 0 (awCard.take 1) 1 = (St.zero, 1, 9) := by decide
theorem aw_hams : hamsOf awM 0 awCard = [0, 1, 1] := by
  have h : (replay awM 0 awCard (-1)).2.2 = 0 := by rw [aw_replay]
  simp only [hamsOf, h, if_true, aw_replay]
  decide
theorem dec1 {n : Nat} (h : n < 10) : Lib.decDigits n = [UInt8.ofNat (48 + n)] := dec_small h
theorem aw_board : board awM 0 awCard (-1) = [114, 42, 32, 50, 112, 32, 48, 32, 48, 32, 61, 32, 50, 10, 121, 32, 32, 48, 32, 48, 32, 49, 32, 61, 32, 49, 10] := by
  have h : (replay awM 0 awCard (-1)).2.2 = 0 := by rw [aw_replay]
  simp only [board, h, if_true, boardText, aw_hams, aw_replay]
  simp [boardRow, columns, column, awCard, Lib.joinTail, dec1]
def awC0 : Ck := ⟨100, 10, 1, 20, 100, 100, 1, 1, -1, 0, 0⟩
def awC1 : Ck := ⟨100, 10, 1, 20, 100, 100, 1, 1, 0, 5, 0⟩
def awC2 : Ck := ⟨100, 10, 1, 20, 90, 100, 0, 1, 0, 15, 35⟩
theorem aw_start : awC0.start 0 5 = (awC1, 0) := by rfl
theorem aw_out : awC1.out 0 15 = (awC2, 0) := by rfl
theorem aw_left : awC2.left 0 40 = 85 ∧ awC2.wrong 0 40 = 0 := by constructor <;> rfl
theorem aw_ok0 : awC0.Ok := by constructor <;> decide
theorem aw_ok1 : awC1.Ok := by constructor <;> decide
theorem aw_ok2 : awC2.Ok := by constructor <;> decide
end Game
open Go.RowKit
open Game
theorem card_three {w : World} {g : Nat} (h : w.heap[g]? = some (.cells #[.int .i64 0, .int .i64 2, .bool true, .int .i64 (-1), .int .i64 0, .bool false, .int .i64 1, .int .i64 1, .bool false] 42 (0, 0))) : Card w (some ⟨g, 0, none⟩) awCard := by
  have hl := (Array.getElem?_eq_some_iff.1 h).1
  refine ⟨by decide, fun _ => ⟨_, rfl, hl, fun i x hx => ?_⟩⟩
  match i with
  | 0 => simp [awCard] at hx; subst hx; simp [Addr.add, World.cell?, h]
  | 1 => simp [awCard] at hx; subst hx; simp [Addr.add, World.cell?, h]
  | 2 => simp [awCard] at hx; subst hx; simp [Addr.add, World.cell?, h]
  | i + 3 => simp [awCard] at hx
theorem rd_three (w : World) (a b c : Int) : Rd (w.alloc (.cells #[.int .i64 a, .int .i64 b, .int .i64 c] 3)) (some ⟨w.heap.size, 0, none⟩) [a, b, c] := by
  have h := alloc_at w (.cells #[.int .i64 a, .int .i64 b, .int .i64 c] 3)
  refine ⟨by simp, fun _ => ⟨_, rfl, fun i x hx => ?_⟩⟩
  match i with
  | 0 => simp at hx; subst hx; exact cell_of_row _ w.heap.size 0 _ _ (0, 0) h
  | 1 => simp at hx; subst hx; exact cell_of_row _ w.heap.size 1 _ _ (0, 0) h
  | 2 => simp at hx; subst hx; exact cell_of_row _ w.heap.size 2 _ _ (0, 0) h
  | i + 3 => simp at hx
theorem StAt.only {w W : World} {g k : Nat} {t : St} (h : StAt w g t) (hb : OnlyAt w W k) (hk : g ≠ k) : StAt W g t := h.kept (hb.block g (Array.getElem?_eq_some_iff.1 h).1 (fun e => hk (by cases e; rfl)))
theorem Rd.only {w W : World} {A : Option Addr} {xs : List Int} {k B : Nat} (h : Rd w A xs) (hb : OnlyAt w W k) (hA : ∀ ad, A = some ad → ad.block < B) (hB : B ≤ k) (hBw : B ≤ w.heap.size) : Rd W A xs := by
  refine ⟨h.1, fun hn => ?_⟩
  obtain ⟨ad, e, hc⟩ := h.2 hn
  have hlt := hA ad e
  exact ⟨ad, e, fun i x hx => (World.cell?_of_block (hb.block (ad.add i).block (by rw [add_block]; omega) (fun e' => by have := Option.some.inj e'; rw [add_block] at this; omega))).trans (hc i x hx)⟩
theorem b_onlyAt {w W W' : World} {g : Nat} (h : Below w.heap.size w W) (k : OnlyAt W W' g) (hg : w.heap.size ≤ g) : Below w.heap.size w W' := b_only h k hg
/-- What stands while the first words run. -/
structure AwAt (w W : World) : Prop where
  card : Card W (some ⟨w.heap.size + 1, 0, none⟩) awCard
  m : MtAt W w.heap.size awM
  t : Tab W
  b : Below w.heap.size w W
theorem AwAt.call {w W W' : World} (h : AwAt w W) (hb : Below W.heap.size W W') : AwAt w W' := ⟨h.card.below hb, h.m.below hb, h.t.below hb (Nat.le_refl _), b_call h.b hb⟩
theorem AwAt.alloc {w W : World} (h : AwAt w W) (o : Obj) : AwAt w (W.alloc o) := h.call (b_alloc (Below.refl _ _))
set_option maxHeartbeats 4000000 in
set_option maxRecDepth 100000 in
theorem awake_any (w : World) (htab : Tab w) : Calls Tryd.prog 10 #[] w fun e w' => e = .returned (.bool true) ∧ Below w.heap.size w w' := by
  have hrep : ∀ W, Card W (some ⟨w.heap.size + 1, 0, none⟩) awCard → Calls Tryd.prog 11 #[.agg #[.int .i64 3, .int .i64 8, .int .i64 2, .bool false, .bool true], .int .i64 0, .slice (some ⟨w.heap.size + 1, 0, none⟩) 3 3, .int .i64 (-1)] W fun e w' =>
      e = .returned (.tuple #[.agg #[.int .i64 2, .int .i64 1, .int .i64 3, .int .i64 (-1), .int .i64 0, .bool true, .bool false, .bool true, .bool false], .int .i64 (-1), .int .i64 0]) ∧ Below W.heap.size W w' := by
    intro W hW
    have h := pReplay_any awM 0 (some ⟨w.heap.size + 1, 0, none⟩) 3 awCard (-1) W hW
    rw [aw_replay] at h
    exact h
  have hone : ∀ W, Card W (some ⟨w.heap.size + 1, 0, none⟩) awCard → Calls Tryd.prog 11 #[.agg #[.int .i64 3, .int .i64 8, .int .i64 2, .bool false, .bool true], .int .i64 0, .slice (some ⟨w.heap.size + 1, 0, none⟩) 1 3, .int .i64 1] W fun e w' =>
      e = .returned (.tuple #[.agg #[.int .i64 0, .int .i64 0, .int .i64 0, .int .i64 0, .int .i64 0, .bool false, .bool false, .bool false, .bool false], .int .i64 1, .int .i64 9]) ∧ Below W.heap.size W w' := by
    intro W hW
    have h := pReplay_any awM 0 (some ⟨w.heap.size + 1, 0, none⟩) 3 (awCard.take 1) 1 W (hW.take 1)
    rw [aw_one] at h
    exact h
  have hham : ∀ W, Card W (some ⟨w.heap.size + 1, 0, none⟩) awCard → Calls Tryd.prog 13 #[.agg #[.int .i64 3, .int .i64 8, .int .i64 2, .bool false, .bool true], .int .i64 0, .slice (some ⟨w.heap.size + 1, 0, none⟩) 3 3] W fun e w' =>
      ∃ A ca, e = .returned (.tuple #[.slice A 3 ca, .int .i64 0]) ∧ Rd w' A [0, 1, 1] ∧ (∀ ad, A = some ad → ad.block < w'.heap.size) ∧ Below W.heap.size W w' := by
    intro W hW
    have h := pHammers_any awM 0 (some ⟨w.heap.size + 1, 0, none⟩) 3 awCard W hW (by decide)
    rw [aw_hams, aw_replay] at h
    refine h.mono ?_
    rintro e w' ⟨v, rfl, hown, hb⟩
    obtain ⟨A, ca, rfl, h1, h2⟩ := own_rd hown (by decide)
    exact ⟨A, ca, rfl, h1, h2, hb⟩
  have hboa : ∀ W, Card W (some ⟨w.heap.size + 1, 0, none⟩) awCard → Tab W → Calls Tryd.prog 15 #[.agg #[.int .i64 3, .int .i64 8, .int .i64 2, .bool false, .bool true], .int .i64 0, .slice (some ⟨w.heap.size + 1, 0, none⟩) 3 3, .int .i64 (-1)] W fun e w' =>
      e = .returned (.tuple #[.string ⟨#[114, 42, 32, 50, 112, 32, 48, 32, 48, 32, 61, 32, 50, 10, 121, 32, 32, 48, 32, 48, 32, 49, 32, 61, 32, 49, 10]⟩, .int .i64 0]) ∧ Below W.heap.size W w' := by
    intro W hW hT
    have h := pBoard_any awM 0 (some ⟨w.heap.size + 1, 0, none⟩) 3 awCard (-1) W hW (by decide) hT
    rw [aw_board, aw_replay] at h
    exact h
  have hnew : ∀ W, Calls Tryd.prog 21 #[.agg #[.int .i64 100, .int .i64 10, .int .i64 1, .int .i64 20]] W fun e w' => ∃ g, e = .returned (.tuple #[.pointer (some ⟨g, 0, none⟩), .int .i64 0]) ∧ W.heap.size ≤ g ∧ CkAt w' g awC0 ∧ Below W.heap.size W w' := fun W => NewClock_good 100 10 1 20 W (by decide)
  have hsta : ∀ g W, CkAt W g awC0 → Calls Tryd.prog 25 #[.pointer (some ⟨g, 0, none⟩), .int .i64 0, .int .i64 5] W fun e w' => e = .returned (.int .i64 0) ∧ CkAt w' g awC1 ∧ OnlyAt W w' g := fun g W h => Start_any g awC0 0 5 W h aw_ok0
  have hout : ∀ g W, CkAt W g awC1 → Calls Tryd.prog 27 #[.pointer (some ⟨g, 0, none⟩), .int .i64 0, .int .i64 15] W fun e w' => e = .returned (.int .i64 0) ∧ CkAt w' g awC2 ∧ OnlyAt W w' g := fun g W h => Out_any g awC1 0 15 W h aw_ok1 (by decide) (by decide)
  have hlef : ∀ g W, CkAt W g awC2 → Calls Tryd.prog 24 #[.pointer (some ⟨g, 0, none⟩), .int .i64 0, .int .i64 40] W fun e w' => e = .returned (.tuple #[.int .i64 85, .int .i64 0]) ∧ Below W.heap.size W w' := by
    intro g W h
    have h1 := cLeft_any g awC2 0 40 W h aw_ok2
    rw [if_pos aw_left.2, aw_left.1, aw_left.2] at h1
    exact h1
  have hint : ∀ (A : Option Addr) (ca : Nat) (W : World) (B : Option Addr) (cb : Nat), Rd W A [0, 1, 1] → Rd W B [0, 1, 1] → Calls Tryd.prog 19 #[.slice A 3 ca, .slice B 3 cb] W fun e w' => e = .returned (.bool true) ∧ Below W.heap.size W w' := by
    intro A ca W B cb h1 h2
    have h := Ints_any A B ca cb [0, 1, 1] [0, 1, 1] W h1 h2
    exact h
  have hA0 : AwAt w ((w.alloc (.cells #[.int .i64 3, .int .i64 8, .int .i64 2, .bool false, .bool true] 23)).alloc (.cells #[.int .i64 0, .int .i64 2, .bool true, .int .i64 (-1), .int .i64 0, .bool false, .int .i64 1, .int .i64 1, .bool false] 42)) := by
    refine ⟨card_three (alloc_at' (by simp)), (alloc_old _ _ (by simp)).trans (alloc_at w _), htab.below (b_alloc (b_alloc (Below.refl _ _))) (Nat.le_refl _), b_alloc (b_alloc (Below.refl _ _))⟩
  have Hrep := Lib.hid hrep
  have Hone := Lib.hid hone
  have Hham := Lib.hid hham
  have Hboa := Lib.hid hboa
  have Hnew := Lib.hid hnew
  have Hsta := Lib.hid hsta
  have Hout := Lib.hid hout
  have Hlef := Lib.hid hlef
  have Hint := Lib.hid hint
  clear hrep hone hham hboa hnew hsta hout hlef hint
  go_enter Tryd.func10, Tryd.ntmps10
  go_upto_region 6 with (first
    | (go_at_call 11; refine (Hrep.out _ hA0.card).mono ?_; rintro e w1 ⟨rfl, hb1⟩; have hA1 := hA0.call hb1; obtain ⟨q0, q1, q2, q3, q4, qf, qz⟩ := hA1.m.cells; simp only [awM] at q0 q1 q2 q3 q4)
    | (go_at_call 13; refine (Hham.out _ (hA1.alloc _).card).mono ?_; rintro e w2 ⟨A2, ca2, rfl, hR2, hRb2, hb2⟩; have hA2 := (hA1.alloc _).call hb2; obtain ⟨r0, r1, r2, r3, r4, rf, rz⟩ := hA2.m.cells; simp only [awM] at r0 r1 r2 r3 r4)
    | (go_at_call 15; refine (Hboa.out _ hA2.card hA2.t).mono ?_; rintro e w3 ⟨rfl, hb3⟩; have hA3 := hA2.call hb3; obtain ⟨p0, p1, p2, p3, p4, pf, pz⟩ := hA3.m.cells; simp only [awM] at p0 p1 p2 p3 p4))
  have hS1 : StAt (w1.alloc (.cells #[.int .i64 2, .int .i64 1, .int .i64 3, .int .i64 (-1), .int .i64 0, .bool true, .bool false, .bool true, .bool false] 29)) w1.heap.size ⟨2, 1, 3, -1, 0, true, false, true, false⟩ := alloc_at w1 _
  have hS3 := (hS1.below hb2).below hb3
  have hR3 := hR2.below hb3 hRb2
  have hRb3 : ∀ ad, A2 = some ad → ad.block < w3.heap.size := fun ad e => by have := hRb2 ad e; have := hb3.size; omega
  have hcl := fun (W : World) (hW : Below w3.heap.size w3 W) => Hone.out W (hA3.card.below hW)
  clear q0 q1 q2 q3 q4 qf qz r0 r1 r2 r3 r4 rf rz hb1 hb2 hb3 hA0 hA1 hA2 hS1 hR2 hRb2
  go_cut [11, 12] (fun s11 s12 wx => s11 = .int .i64 1 ∧ s12 = .int .i64 9 ∧ Below w3.heap.size w3 wx)
  case first =>
    go_region_with (go_at_call 11; refine (hcl _ (by (repeat (first | (with_reducible exact Below.refl _ _) | (with_reducible assumption) | (with_reducible refine b_alloc ?_) | (with_reducible refine b_drew ?_) | (with_reducible refine b_drewN ?_) | (with_reducible refine b_set ?_ (by first | (simp; done) | (dsimp only; omega))) | (with_reducible refine b_call ?_ (by assumption)))))).mono ?_; rintro e w5 ⟨rfl, hb5⟩; obtain ⟨hc5, hf5⟩ := bcell hb5; have hz6 : w.heap.size < w5.heap.size := (by have := hb5.size; simp at this; omega))
    all_goals (go_wp2_with fail; go_meet)
    all_goals exact ⟨rfl, rfl, by (repeat (first | (with_reducible exact Below.refl _ _) | (with_reducible assumption) | (with_reducible refine b_alloc ?_) | (with_reducible refine b_drew ?_) | (with_reducible refine b_drewN ?_) | (with_reducible refine b_set ?_ (by first | (simp; done) | (dsimp only; omega))) | (with_reducible refine b_call ?_ (by assumption))))⟩
  case rest =>
    obtain ⟨rfl, rfl, hbx⟩ := hcut
    clear p0 p1 p2 p3 p4 pf pz hcl
    have hSx := hS3.below hbx
    have hRx := hR3.below hbx hRb3
    have hBx := b_call hA3.b hbx
    have hzx := hbx.size
    have hz3 : w1.heap.size < w3.heap.size := hS3.cells.2.2.2.2.2.2.2.2.2.2
    have hzw : w.heap.size ≤ wc.heap.size := hBx.size
    have heq : ∀ W, (Op.equalIn 10000 26 (.agg #[.int .i64 2, .int .i64 1]) (.agg #[.int .i64 2, .int .i64 1])).run Tryd.prog W = .ok true W := fun W => eq_ints10 2 1 2 1 W
    have hRbx : ∀ ad, A2 = some ad → ad.block < wc.heap.size := fun ad e => by have := hRb3 ad e; omega
    clear hS3 hR3 hRb3 hA3 hbx
    go_wp2_with (first
      | (go_at_call 21; refine (Hnew.out _).mono ?_; rintro e w4 ⟨g, rfl, hg, hC4, hb4⟩; have hz4 := hb4.size)
      | (go_at_call 25; refine (Hsta.out g _ hC4).mono ?_; rintro e w5 ⟨rfl, hC5, hO5⟩; have hz5 := hO5.size)
      | (go_at_call 27; refine (Hout.out g _ hC5).mono ?_; rintro e w6 ⟨rfl, hC6, hO6⟩; have hz6 := hO6.size))
    refine (Hlef.out g _ hC6).mono ?_
    rintro e w7 ⟨rfl, hb7⟩
    have hz7 := hb7.size
    have hS7 := (((hSx.below hb4).only hO5 (by omega)).only hO6 (by omega)).below hb7
    have hR4 := hRx.below hb4 hRbx
    have hR5 := hR4.only hO5 hRbx hg hz4
    have hR6 := hR5.only hO6 hRbx hg (by omega)
    have hR7 := hR6.below hb7 (fun ad e => by have := hRbx ad e; omega)
    have hB7 := b_call (b_onlyAt (b_onlyAt (b_call hBx hb4) hO5 (by omega)) hO6 (by omega)) hb7
    obtain ⟨s0, s1, s2, s3, s4, s5, s6, s7, s8, sf, sz⟩ := hS7.cells
    clear hR4 hR5 hR6 hC4 hC5 hC6 hO5 hO6 hb4 hb7 hRx hSx hBx
    go_wp2_with (first
      | (go_at_call 19; refine (Hint.out A2 ca2 _ _ 3 (hR7.below (b_alloc (Below.refl _ _)) (fun ad e => by have := hRbx ad e; omega)) (rd_three _ _ _ _)).mono ?_; rintro e w8 ⟨rfl, hb8⟩))
    go_ret
    exact ⟨rfl, by (repeat (first | (with_reducible exact Below.refl _ _) | (with_reducible assumption) | (with_reducible refine b_alloc ?_) | (with_reducible refine b_drew ?_) | (with_reducible refine b_drewN ?_) | (with_reducible refine b_set ?_ (by first | (simp; done) | (dsimp only; omega))) | (with_reducible refine b_call ?_ (by assumption))))⟩
end Go.Proofs.YtenofigclkbbiaaDoor
