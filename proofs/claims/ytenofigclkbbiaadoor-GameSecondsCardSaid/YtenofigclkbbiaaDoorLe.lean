/-
  GameSeconds: what a team has left falls by the seconds that pass, and rises by extra seconds alone: the walk.
-/
import Derived.Test.YtenofigclkbbiaaDoorAw
import Derived.Test.YtenofigclkbbiaaDoorSe
import Derived.Deep.DeepCutAuto
import Derived.Deep.CutBlock
import Derived.IntWalk
set_option linter.unusedVariables false
set_option linter.unusedSimpArgs false
namespace Go.Proofs.YtenofigclkbbiaaDoor
open Go.RowKit
open Game
/-- Two numbers of a call's own. -/
def BfAt (w : World) (g : Nat) (p : Int × Int) : Prop := w.heap[g]? = some (.cells #[.int .i64 p.1, .int .i64 p.2] 26 (0, 0))
theorem BfAt.cells {w : World} {g : Nat} {p : Int × Int} (h : BfAt w g p) : w.cell? ⟨g, 0, none⟩ = some (.int .i64 p.1) ∧ w.cell? ⟨g, 1, none⟩ = some (.int .i64 p.2) ∧ (∀ o, w.frozen? ⟨g, o, none⟩ = false) ∧ g < w.heap.size := by
  have hl := (Array.getElem?_eq_some_iff.1 h).1
  unfold BfAt at h
  exact ⟨by simp [World.cell?, h], by simp [World.cell?, h], fun o => by simp [World.frozen?, h], hl⟩
theorem BfAt.kept {w W : World} {g : Nat} {p : Int × Int} (h : BfAt w g p) (hb : W.heap[g]? = w.heap[g]?) : BfAt W g p := hb.trans h
theorem BfAt.below {w W : World} {g : Nat} {p : Int × Int} (h : BfAt w g p) (hb : Below w.heap.size w W) : BfAt W g p := h.kept (hb.block g h.cells.2.2.2)
theorem BfAt.put0 {w : World} {g : Nat} {p : Int × Int} (h : BfAt w g p) (c : Int) : BfAt (w.setCell ⟨g, 0, none⟩ (.int .i64 c)) g (c, p.2) := by
  unfold BfAt at h ⊢; simp [World.setCell, Array.getElem?_modify, h]
theorem BfAt.put1 {w : World} {g : Nat} {p : Int × Int} (h : BfAt w g p) (c : Int) : BfAt (w.setCell ⟨g, 1, none⟩ (.int .i64 c)) g (p.1, c) := by
  unfold BfAt at h ⊢; simp [World.setCell, Array.getElem?_modify, h]
/-- The times in memory. -/
def TmAt (w : World) (g : Nat) (a b o l : Int) : Prop := w.heap[g]? = some (.cells #[.int .i64 a, .int .i64 b, .int .i64 o, .int .i64 l] 47 (0, 0))
theorem TmAt.cells {w : World} {g : Nat} {a b o l : Int} (h : TmAt w g a b o l) : w.cell? ⟨g, 0, none⟩ = some (.int .i64 a) ∧ w.cell? ⟨g, 1, none⟩ = some (.int .i64 b) ∧ w.cell? ⟨g, 2, none⟩ = some (.int .i64 o) ∧ w.cell? ⟨g, 3, none⟩ = some (.int .i64 l) ∧
    (∀ o, w.frozen? ⟨g, o, none⟩ = false) ∧ g < w.heap.size := by
  have hl := (Array.getElem?_eq_some_iff.1 h).1
  unfold TmAt at h
  exact ⟨by simp [World.cell?, h], by simp [World.cell?, h], by simp [World.cell?, h], by simp [World.cell?, h], fun o => by simp [World.frozen?, h], hl⟩
theorem TmAt.kept {w W : World} {g : Nat} {a b o l : Int} (h : TmAt w g a b o l) (hb : W.heap[g]? = w.heap[g]?) : TmAt W g a b o l := hb.trans h
theorem TmAt.below {w W : World} {g : Nat} {a b o l : Int} (h : TmAt w g a b o l) (hb : Below w.heap.size w W) : TmAt W g a b o l := h.kept (hb.block g h.cells.2.2.2.2.2)
theorem ck_put {w : World} {g k o : Nat} {c : Ck} {v : Value} (h : CkAt w g c) (hk : g ≠ k) : CkAt (w.setCell ⟨k, o, none⟩ v) g c := h.kept (heap_set hk) (by simpa [World.setCell] using h.z)
theorem BfAt.only {w W : World} {g k : Nat} {p : Int × Int} (h : BfAt w g p) (hb : OnlyAt w W k) (hk : g ≠ k) : BfAt W g p := h.kept (hb.block g h.cells.2.2.2 (fun e => hk (by cases e; rfl)))
theorem TmAt.only {w W : World} {g k : Nat} {a b o l : Int} (h : TmAt w g a b o l) (hb : OnlyAt w W k) (hk : g ≠ k) : TmAt W g a b o l := h.kept (hb.block g h.cells.2.2.2.2.2 (fun e => hk (by cases e; rfl)))
/-- What has been written down of the seconds behind j rounds. -/
def befo (c : Ck) : Nat → Int × Int
  | 0 => (0, 0)
  | 1 => (c.of 0, 0)
  | _ => (c.of 0, c.of 1)
theorem left_told {c : Ck} {n : Nat} (hI : c.Inv n) (hn : n ≤ 1000000) (g : Nat) (k : Int) (hk : k = 0 ∨ k = 1) (W : World) (h : CkAt W g c) :
    Calls Tryd.prog 24 #[.pointer (some ⟨g, 0, none⟩), .int .i64 k, .int .i64 c.now] W fun e w' => e = .returned (.tuple #[.int .i64 (c.of k), .int .i64 0]) ∧ Below W.heap.size W w' := by
  have := cLeft_any g c k c.now W h (hI.ok hn)
  rw [wrong_at hk (Int.le_refl _) hI.now.2, left_now hI] at this
  simpa using this
set_option maxHeartbeats 8000000 in
set_option maxRecDepth 100000 in
theorem GameSeconds_walk (a b o l : Int) (A : Option Addr) (cap : Nat) (list : List Pr) (w : World) (hc : Prs w A list) (hcap : list.length ≤ cap) (htab : Tab w) :
    Calls Tryd.prog 7 #[.agg #[.int .i64 a, .int .i64 b, .int .i64 o, .int .i64 l], .slice A list.length cap] w fun e w' => e = .returned (.bool true) ∧ Below w.heap.size w w' := by
  have haw := Lib.hid (fun (W : World) (hW : Below w.heap.size w W) => awake_any W (htab.below hW (Nat.le_refl _)))
  have hln := hc.1
  by_cases h200 : 200 < list.length
  · go_enter Tryd.func7, Tryd.ntmps7
    go_wp2_with (go_at_call 10; refine (haw.out _ (by (repeat (first | (with_reducible exact Below.refl _ _) | (with_reducible assumption) | (with_reducible refine b_alloc ?_) | (with_reducible refine b_drew ?_) | (with_reducible refine b_drewN ?_) | (with_reducible refine b_set ?_ (by first | (simp; done) | (dsimp only; omega))) | (with_reducible refine b_call ?_ (by assumption)))))).mono ?_; rintro e w1 ⟨rfl, hb1⟩)
    go_ret
    exact ⟨rfl, by (repeat (first | (with_reducible exact Below.refl _ _) | (with_reducible assumption) | (with_reducible refine b_alloc ?_) | (with_reducible refine b_drew ?_) | (with_reducible refine b_drewN ?_) | (with_reducible refine b_set ?_ (by first | (simp; done) | (dsimp only; omega))) | (with_reducible refine b_call ?_ (by assumption))))⟩
  · by_cases hok : timesOk a b o l = true
    · have hnew := Lib.hid (fun (W : World) => NewClock_good a b o l W hok)
      have hI0 := Ck.Inv.new hok
      have hlb : (0 ≤ b ∧ b ≤ 100000) ∧ (0 ≤ l ∧ l ≤ 100000) := by simp [timesOk] at hok; omega
      clear hok
      go_enter Tryd.func7, Tryd.ntmps7
      go_upto_region 6 with (go_at_call 21; refine (hnew.out _).mono ?_; rintro e w1 ⟨g, rfl, hg, hC1, hb1⟩; have hz1 := hb1.size)
      have hT1 : TmAt w1 w.heap.size a b o l := (hb1.block _ (by simp)).trans (alloc_at w _)
      have hB1 := b_call (b_alloc (Below.refl w.heap.size w)) hb1
      have hgs : w.heap.size < g := by simp at hg; omega
      clear hb1 hnew hg hz1
      go_wp2_with fail
      go_loopw [7, 8] (fun u i wr => ∃ (k : Nat) (c : Ck), k ≤ list.length ∧ i = .int .i64 k ∧ u = .int .i64 c.til ∧ CkAt wr g c ∧ c.Inv k ∧ (c.ext = b ∧ c.len = l) ∧ TmAt wr w.heap.size a b o l ∧ Below w.heap.size w wr)
        (fun _ i _ => list.length - (intOf i).toNat)
      case atStart => exact ⟨0, Ck.new a b o l, by omega, rfl, rfl, hC1, hI0, ⟨rfl, rfl⟩, hT1, hB1⟩
      case round =>
        clear hC1 hI0 hT1 hB1
        obtain ⟨k, c, hk, rfl, rfl, hC, hI, hel, hT, hB⟩ := hrel
        by_cases hlt : k < list.length
        · obtain ⟨ad, x, rfl, hadb, hx, x0, x1, x2, x3⟩ := hc.at_ hB hlt
          have hzr := hB.size
          by_cases hbig : 1099511627776 < x.t
          · go_wp2_with (go_at_call 10; refine (haw.out _ (by (repeat (first | (with_reducible exact Below.refl _ _) | (with_reducible assumption) | (with_reducible refine b_alloc ?_) | (with_reducible refine b_drew ?_) | (with_reducible refine b_drewN ?_) | (with_reducible refine b_set ?_ (by first | (simp; done) | (dsimp only; omega))) | (with_reducible refine b_call ?_ (by assumption)))))).mono ?_; rintro e w1 ⟨rfl, hb1⟩)
            go_ret
            exact ⟨rfl, by (repeat (first | (with_reducible exact Below.refl _ _) | (with_reducible assumption) | (with_reducible refine b_alloc ?_) | (with_reducible refine b_drew ?_) | (with_reducible refine b_drewN ?_) | (with_reducible refine b_set ?_ (by first | (simp; done) | (dsimp only; omega))) | (with_reducible refine b_call ?_ (by assumption))))⟩
          · by_cases hlow : x.t < -1099511627776
            · go_wp2_with (go_at_call 10; refine (haw.out _ (by (repeat (first | (with_reducible exact Below.refl _ _) | (with_reducible assumption) | (with_reducible refine b_alloc ?_) | (with_reducible refine b_drew ?_) | (with_reducible refine b_drewN ?_) | (with_reducible refine b_set ?_ (by first | (simp; done) | (dsimp only; omega))) | (with_reducible refine b_call ?_ (by assumption)))))).mono ?_; rintro e w1 ⟨rfl, hb1⟩)
              go_ret
              exact ⟨rfl, by (repeat (first | (with_reducible exact Below.refl _ _) | (with_reducible assumption) | (with_reducible refine b_alloc ?_) | (with_reducible refine b_drew ?_) | (with_reducible refine b_drewN ?_) | (with_reducible refine b_set ?_ (by first | (simp; done) | (dsimp only; omega))) | (with_reducible refine b_call ?_ (by assumption))))⟩
            · have hat := Lib.hid (fun (W : World) => at_any x.what x.team x.t x.later c.now W (by omega) (by have := hI.now; omega))
              have hrun := Lib.hid (fun (W : World) (h : CkAt W g c) => Running_any g c W h)
              have hokc := hI.ok (by omega)
              have hX : ∀ (W : World), Below w.heap.size w W → W.cell? (ad.add (k * 4)) = some (.int .i64 x.what) ∧ W.cell? ⟨(ad.add (k * 4)).block, (ad.add (k * 4)).off + 1, none⟩ = some (.int .i64 x.team) ∧ W.cell? ⟨(ad.add (k * 4)).block, (ad.add (k * 4)).off + 2, none⟩ = some (.int .i64 x.t) ∧
                  W.cell? ⟨(ad.add (k * 4)).block, (ad.add (k * 4)).off + 3, none⟩ = some (.bool x.later) := by
                intro W hW
                obtain ⟨ad', x', e, _, hx', c0, c1, c2, c3⟩ := hc.at_ hW hlt
                cases e
                rw [hx] at hx'
                cases hx'
                exact ⟨c0, c1, c2, c3⟩
              have HX := Lib.hid hX
              clear hX
              go_upto_region 14 with (first
                | (go_at_call 22; refine (hrun.out _ hC).mono ?_; rintro e w2 ⟨rfl, hb2⟩; obtain ⟨y0, y1, y2, y3⟩ := HX.out _ (b_call hB hb2))
                | (go_at_call 23; refine (hat.out _).mono ?_; rintro e w3 ⟨rfl, hb3⟩))
              have hC2 := hC.below hb2 hC.z
              have hC3 := hC2.below hb3 hC2.z
              have hT3 := (hT.below hb2).below hb3
              have hB3 := b_call (b_call hB hb2) hb3
              obtain ⟨T, hTt⟩ : ∃ T, T = atOf x.what x.team x.t x.later c.now := ⟨_, rfl⟩
              rw [← hTt]
              have HT := Lib.hid hTt
              have hgz := hC3.z
              clear hTt x0 x1 x2 x3 y0 y1 y2 y3 hC hC2 hT hB hb2 hb3 hat hrun hzr
              have hL := Lib.hid (fun (j : Int) (hj : j = 0 ∨ j = 1) (W : World) (h : CkAt W g c) => left_told hI (by omega) g j hj W h)
              have hp0 := (of_pos (k := 0) hI).1
              have hp1 := (of_pos (k := 1) hI).1
              go_wp2_with fail
              go_loopw [13] (fun i wx => ∃ p : Int × Int, (i = .int .i64 0 ∧ p = (0, 0) ∨ i = .int .i64 1 ∧ p = (c.of 0, 0) ∨ i = .int .i64 2 ∧ p = (c.of 0, c.of 1)) ∧ BfAt wx w3.heap.size p ∧ Below w3.heap.size w3 wx)
                (fun i _ => 2 - (intOf i).toNat)
              case atStart => exact ⟨(0, 0), .inl ⟨rfl, rfl⟩, alloc_at _ _, b_alloc (Below.refl _ _)⟩
              case round =>
                obtain ⟨p, (⟨rfl, rfl⟩ | ⟨rfl, rfl⟩ | ⟨rfl, rfl⟩), hP, hB4⟩ := hrel
                · have hC4 := hC3.below hB4 hgz
                  go_wp2_with (go_at_call 24; refine (hL.out 0 (.inl rfl) _ hC4).mono ?_; rintro e w5 ⟨rfl, hb5⟩; have hP5 := hP.below hb5; obtain ⟨v0, v1, vf, vz⟩ := hP5.cells)
                  go_roundw
                  case rel => exact ⟨(c.of 0, 0), .inr (.inl ⟨rfl, rfl⟩), hP5.put0 _, by (repeat (first | (with_reducible exact Below.refl _ _) | (with_reducible assumption) | (with_reducible refine b_alloc ?_) | (with_reducible refine b_drew ?_) | (with_reducible refine b_drewN ?_) | (with_reducible refine b_set ?_ (by first | (simp; done) | (dsimp only; omega))) | (with_reducible refine b_call ?_ (by assumption))))⟩
                  case measure => simp [intOf]
                · have hC4 := hC3.below hB4 hgz
                  go_wp2_with (go_at_call 24; refine (hL.out 1 (.inr rfl) _ hC4).mono ?_; rintro e w5 ⟨rfl, hb5⟩; have hP5 := hP.below hb5; obtain ⟨v0, v1, vf, vz⟩ := hP5.cells)
                  go_roundw
                  case rel => exact ⟨(c.of 0, c.of 1), .inr (.inr ⟨rfl, rfl⟩), hP5.put1 _, by (repeat (first | (with_reducible exact Below.refl _ _) | (with_reducible assumption) | (with_reducible refine b_alloc ?_) | (with_reducible refine b_drew ?_) | (with_reducible refine b_drewN ?_) | (with_reducible refine b_set ?_ (by first | (simp; done) | (dsimp only; omega))) | (with_reducible refine b_call ?_ (by assumption))))⟩
                  case measure => simp [intOf]
                · have hC4 := hC3.below hB4 hgz
                  have hT4 := hT3.below (hB4.mono (by omega))
                  have hB5 := b_call hB3 hB4
                  obtain ⟨y0, y1, y2, y3⟩ := HX.out _ hB5
                  clear hC3 hT3 hB3
                  have hwg : w.heap.size ≤ g := by omega
                  have hgb : g ≠ w3.heap.size := by omega
                  have hbg : w3.heap.size ≠ g := by omega
                  have htg : w.heap.size ≠ g := by omega
                  by_cases hdef : x.what = 1 ∨ x.what = 2 ∨ x.what = 3 ∨ x.what = 4
                  · have hbad := Lib.hid (fun h => step_bad (c := c) (x := x) h)
                    have hgood := Lib.hid (fun h => step_good (c := c) (x := x) h hdef)
                    have hstep := Lib.hid (hI.step (x := x))
                    go_upto_block 4 with fail
                    go_cut [16] (fun s16 wx => s16 = .int .i64 (c.step x).2 ∧ CkAt wx g (c.step x).1 ∧ BfAt wx w3.heap.size (c.of 0, c.of 1) ∧ TmAt wx w.heap.size a b o l ∧ Below w.heap.size w wx)
                    case first =>
                      rcases hdef with h1 | h1 | h1 | h1
                      · as_aux_lemma =>
                          have b1 : (x.what == 1) = true := by simp [h1]
                          have hst : c.step x = c.start x.team T := by unfold Ck.step Pr.time; rw [← HT.out]; simp [h1]
                          have HS := Lib.hid hst
                          clear hst h1
                          go_wp2_with (go_at_call 25; refine (Start_any g c x.team T _ hC4 hokc).mono ?_; rintro e w7 ⟨rfl, hC7, hO7⟩)
                          go_meet
                          rw [HS.out]
                          exact ⟨rfl, hC7, hP.only hO7 hbg, hT4.only hO7 htg, b_onlyAt hB5 hO7 hwg⟩
                      · as_aux_lemma =>
                          have b1 : (x.what == 1) = false := by simp [h1]
                          have b2 : (x.what == 2) = true := by simp [h1]
                          have hst : c.step x = c.stop T := by unfold Ck.step Pr.time; rw [← HT.out]; simp [h1]
                          have HS := Lib.hid hst
                          clear hst h1
                          go_wp2_with (go_at_call 26; refine (Stop_any g c T _ hC4 hokc).mono ?_; rintro e w7 ⟨rfl, hC7, hO7⟩)
                          go_meet
                          rw [HS.out]
                          exact ⟨rfl, hC7, hP.only hO7 hbg, hT4.only hO7 htg, b_onlyAt hB5 hO7 hwg⟩
                      · as_aux_lemma =>
                          have b1 : (x.what == 1) = false := by simp [h1]
                          have b2 : (x.what == 2) = false := by simp [h1]
                          have b3 : (x.what == 3) = true := by simp [h1]
                          have hst : c.step x = c.out x.team T := by unfold Ck.step Pr.time; rw [← HT.out]; simp [h1]
                          have HS := Lib.hid hst
                          clear hst h1
                          go_wp2_with (go_at_call 27; refine (Out_any g c x.team T _ hC4 hokc hI.len ⟨hI.o0, hI.o1⟩).mono ?_; rintro e w7 ⟨rfl, hC7, hO7⟩)
                          go_meet
                          rw [HS.out]
                          exact ⟨rfl, hC7, hP.only hO7 hbg, hT4.only hO7 htg, b_onlyAt hB5 hO7 hwg⟩
                      · as_aux_lemma =>
                          have b1 : (x.what == 1) = false := by simp [h1]
                          have b2 : (x.what == 2) = false := by simp [h1]
                          have b3 : (x.what == 3) = false := by simp [h1]
                          have b4 : (x.what == 4) = true := by simp [h1]
                          have hst : c.step x = c.extra T := by unfold Ck.step Pr.time; rw [← HT.out]; simp [h1]
                          have HS := Lib.hid hst
                          clear hst h1
                          go_wp2_with (go_at_call 28; refine (Extra_any g c T _ hC4 hokc hI.ext).mono ?_; rintro e w7 ⟨rfl, hC7, hO7⟩)
                          go_meet
                          rw [HS.out]
                          exact ⟨rfl, hC7, hP.only hO7 hbg, hT4.only hO7 htg, b_onlyAt hB5 hO7 hwg⟩
                    case rest =>
                      obtain ⟨rfl, hC7, hP7, hT7, hB7⟩ := hcut
                      have hI2 := hstep.out
                      clear hC4 hT4 hB5 hP hB4 y0 y1 y2 y3 hL
                      have hob0 := of_pos (k := 0) hI
                      have hob1 := of_pos (k := 1) hI
                      have hnow := hI.now
                      have htil := hI.til
                      by_cases hr : (c.step x).2 = 0
                      · have hG := hgood.out hr
                        rw [show x.time c.now = T from HT.out.symm] at hG
                        clear hbad hgood hstep
                        generalize c.step x = r at *
                        obtain ⟨d, er⟩ := r
                        simp only at hr hG hI2 hC7
                        subst hr
                        obtain ⟨hGt, hGn, hGo, hGe, hGl, hGu⟩ := hG
                        have hof := Lib.hid hGo
                        have hGu' := Lib.hid hGu
                        clear hGo hGu
                        have hL2 := Lib.hid (fun (j : Int) (hj : j = 0 ∨ j = 1) (W : World) (h : CkAt W g d) => by have h2 := left_told hI2 (by omega) g j hj W h; rw [hGn] at h2; exact h2)
                        simp only
                        go_wp2_with fail
                        go_loopw [17] (fun i wx => (i = .int .i64 0 ∨ i = .int .i64 1 ∨ i = .int .i64 2) ∧ CkAt wx g d ∧ BfAt wx w3.heap.size (c.of 0, c.of 1) ∧ TmAt wx w.heap.size a b o l ∧ Below w.heap.size w wx)
                          (fun i _ => 2 - (intOf i).toNat)
                        case atStart => exact ⟨.inl rfl, hC7, hP7, hT7, hB7⟩
                        case round =>
                          obtain ⟨(rfl | rfl | rfl), hC8, hP8, hT8, hB8⟩ := hrel
                          · as_aux_lemma =>
                              have eo := hof.out 0 (.inl rfl)
                              by_cases ht : c.team = 0
                              · have bt : (c.team == 0) = true := by simp [ht]
                                simp only [Ck.left, ht, if_true] at eo
                                by_cases h4 : x.what = 4
                                · have b4 : (x.what == 4) = true := by simp [h4]
                                  rw [if_pos h4, hel.1] at eo
                                  clear h4
                                  have ht' := Lib.hid ht
                                  clear ht
                                  have hLj := Lib.hid (fun (W : World) (h : CkAt W g d) => hL2.out 0 (.inl rfl) W h)
                                  go_wp2_with (go_at_call 24; refine (hLj.out _ hC8).mono ?_; rintro e w9 ⟨rfl, hb9⟩; have hP9 := hP8.below hb9; have hT9 := hT8.below hb9; obtain ⟨z0, z1, z2, z3⟩ := HX.out _ (b_call hB8 hb9); obtain ⟨v0, v1, vf, vz⟩ := hP9.cells; obtain ⟨t0, t1, t2, t3, tf, tz⟩ := hT9.cells)
                                  go_roundw
                                  case rel => exact ⟨.inr (.inl rfl), hC8.below hb9 hC8.z, hP9, hT9, b_call hB8 hb9⟩
                                  case measure => simp [intOf]
                                · have b4 : (x.what == 4) = false := by simp [h4]
                                  rw [if_neg h4, Int.add_zero] at eo
                                  clear h4
                                  have ht' := Lib.hid ht
                                  clear ht
                                  have hLj := Lib.hid (fun (W : World) (h : CkAt W g d) => hL2.out 0 (.inl rfl) W h)
                                  go_wp2_with (go_at_call 24; refine (hLj.out _ hC8).mono ?_; rintro e w9 ⟨rfl, hb9⟩; have hP9 := hP8.below hb9; have hT9 := hT8.below hb9; obtain ⟨z0, z1, z2, z3⟩ := HX.out _ (b_call hB8 hb9); obtain ⟨v0, v1, vf, vz⟩ := hP9.cells; obtain ⟨t0, t1, t2, t3, tf, tz⟩ := hT9.cells)
                                  go_roundw
                                  case rel => exact ⟨.inr (.inl rfl), hC8.below hb9 hC8.z, hP9, hT9, b_call hB8 hb9⟩
                                  case measure => simp [intOf]
                              · have bt : (c.team == 0) = false := by simp [ht]
                                simp only [Ck.left, ht, if_false] at eo
                                by_cases h4 : x.what = 4
                                · have b4 : (x.what == 4) = true := by simp [h4]
                                  rw [if_pos h4, hel.1] at eo
                                  clear h4 ht
                                  have hLj := Lib.hid (fun (W : World) (h : CkAt W g d) => hL2.out 0 (.inl rfl) W h)
                                  go_wp2_with (go_at_call 24; refine (hLj.out _ hC8).mono ?_; rintro e w9 ⟨rfl, hb9⟩; have hP9 := hP8.below hb9; have hT9 := hT8.below hb9; obtain ⟨z0, z1, z2, z3⟩ := HX.out _ (b_call hB8 hb9); obtain ⟨v0, v1, vf, vz⟩ := hP9.cells; obtain ⟨t0, t1, t2, t3, tf, tz⟩ := hT9.cells)
                                  go_roundw
                                  case rel => exact ⟨.inr (.inl rfl), hC8.below hb9 hC8.z, hP9, hT9, b_call hB8 hb9⟩
                                  case measure => simp [intOf]
                                · have b4 : (x.what == 4) = false := by simp [h4]
                                  rw [if_neg h4, Int.add_zero] at eo
                                  clear h4 ht
                                  have hLj := Lib.hid (fun (W : World) (h : CkAt W g d) => hL2.out 0 (.inl rfl) W h)
                                  go_wp2_with (go_at_call 24; refine (hLj.out _ hC8).mono ?_; rintro e w9 ⟨rfl, hb9⟩; have hP9 := hP8.below hb9; have hT9 := hT8.below hb9; obtain ⟨z0, z1, z2, z3⟩ := HX.out _ (b_call hB8 hb9); obtain ⟨v0, v1, vf, vz⟩ := hP9.cells; obtain ⟨t0, t1, t2, t3, tf, tz⟩ := hT9.cells)
                                  go_roundw
                                  case rel => exact ⟨.inr (.inl rfl), hC8.below hb9 hC8.z, hP9, hT9, b_call hB8 hb9⟩
                                  case measure => simp [intOf]
                          · as_aux_lemma =>
                              have eo := hof.out 1 (.inr rfl)
                              by_cases ht : c.team = 1
                              · have bt : (c.team == 1) = true := by simp [ht]
                                simp only [Ck.left, ht, if_true] at eo
                                by_cases h4 : x.what = 4
                                · have b4 : (x.what == 4) = true := by simp [h4]
                                  rw [if_pos h4, hel.1] at eo
                                  clear h4
                                  have ht' := Lib.hid ht
                                  clear ht
                                  have hLj := Lib.hid (fun (W : World) (h : CkAt W g d) => hL2.out 1 (.inr rfl) W h)
                                  go_wp2_with (go_at_call 24; refine (hLj.out _ hC8).mono ?_; rintro e w9 ⟨rfl, hb9⟩; have hP9 := hP8.below hb9; have hT9 := hT8.below hb9; obtain ⟨z0, z1, z2, z3⟩ := HX.out _ (b_call hB8 hb9); obtain ⟨v0, v1, vf, vz⟩ := hP9.cells; obtain ⟨t0, t1, t2, t3, tf, tz⟩ := hT9.cells)
                                  go_roundw
                                  case rel => exact ⟨.inr (.inr rfl), hC8.below hb9 hC8.z, hP9, hT9, b_call hB8 hb9⟩
                                  case measure => simp [intOf]
                                · have b4 : (x.what == 4) = false := by simp [h4]
                                  rw [if_neg h4, Int.add_zero] at eo
                                  clear h4
                                  have ht' := Lib.hid ht
                                  clear ht
                                  have hLj := Lib.hid (fun (W : World) (h : CkAt W g d) => hL2.out 1 (.inr rfl) W h)
                                  go_wp2_with (go_at_call 24; refine (hLj.out _ hC8).mono ?_; rintro e w9 ⟨rfl, hb9⟩; have hP9 := hP8.below hb9; have hT9 := hT8.below hb9; obtain ⟨z0, z1, z2, z3⟩ := HX.out _ (b_call hB8 hb9); obtain ⟨v0, v1, vf, vz⟩ := hP9.cells; obtain ⟨t0, t1, t2, t3, tf, tz⟩ := hT9.cells)
                                  go_roundw
                                  case rel => exact ⟨.inr (.inr rfl), hC8.below hb9 hC8.z, hP9, hT9, b_call hB8 hb9⟩
                                  case measure => simp [intOf]
                              · have bt : (c.team == 1) = false := by simp [ht]
                                simp only [Ck.left, ht, if_false] at eo
                                by_cases h4 : x.what = 4
                                · have b4 : (x.what == 4) = true := by simp [h4]
                                  rw [if_pos h4, hel.1] at eo
                                  clear h4 ht
                                  have hLj := Lib.hid (fun (W : World) (h : CkAt W g d) => hL2.out 1 (.inr rfl) W h)
                                  go_wp2_with (go_at_call 24; refine (hLj.out _ hC8).mono ?_; rintro e w9 ⟨rfl, hb9⟩; have hP9 := hP8.below hb9; have hT9 := hT8.below hb9; obtain ⟨z0, z1, z2, z3⟩ := HX.out _ (b_call hB8 hb9); obtain ⟨v0, v1, vf, vz⟩ := hP9.cells; obtain ⟨t0, t1, t2, t3, tf, tz⟩ := hT9.cells)
                                  go_roundw
                                  case rel => exact ⟨.inr (.inr rfl), hC8.below hb9 hC8.z, hP9, hT9, b_call hB8 hb9⟩
                                  case measure => simp [intOf]
                                · have b4 : (x.what == 4) = false := by simp [h4]
                                  rw [if_neg h4, Int.add_zero] at eo
                                  clear h4 ht
                                  have hLj := Lib.hid (fun (W : World) (h : CkAt W g d) => hL2.out 1 (.inr rfl) W h)
                                  go_wp2_with (go_at_call 24; refine (hLj.out _ hC8).mono ?_; rintro e w9 ⟨rfl, hb9⟩; have hP9 := hP8.below hb9; have hT9 := hT8.below hb9; obtain ⟨z0, z1, z2, z3⟩ := HX.out _ (b_call hB8 hb9); obtain ⟨v0, v1, vf, vz⟩ := hP9.cells; obtain ⟨t0, t1, t2, t3, tf, tz⟩ := hT9.cells)
                                  go_roundw
                                  case rel => exact ⟨.inr (.inr rfl), hC8.below hb9 hC8.z, hP9, hT9, b_call hB8 hb9⟩
                                  case measure => simp [intOf]
                          · as_aux_lemma =>
                              obtain ⟨z0, z1, z2, z3⟩ := HX.out _ hB8
                              obtain ⟨t0, t1, t2, t3, tf, tz⟩ := hT8.cells
                              by_cases h3 : x.what = 3
                              · have b3 : (x.what == 3) = true := by simp [h3]
                                clear h3
                                have h3 : x.what = 3 := by simpa using b3
                                have Hu := Lib.hid (hGu'.out.trans (if_pos h3))
                                clear h3
                                go_wp2_with fail
                                go_roundw
                                case rel => exact ⟨k + 1, d, by omega, by go_num, by rw [Hu.out, hel.2], hC8, hI2, ⟨hGe.trans hel.1, hGl.trans hel.2⟩, hT8, hB8⟩
                                case measure => simp [intOf]; omega
                              · have b3 : (x.what == 3) = false := by simp [h3]
                                have Hu := Lib.hid (hGu'.out.trans (if_neg h3))
                                clear h3
                                go_wp2_with fail
                                go_roundw
                                case rel => exact ⟨k + 1, d, by omega, by go_num, by rw [Hu.out], hC8, hI2, ⟨hGe.trans hel.1, hGl.trans hel.2⟩, hT8, hB8⟩
                                case measure => simp [intOf]; omega
                      · have hG := hbad.out hr
                        rw [hG] at hC7
                        clear hbad hgood hstep hG hI2
                        generalize (c.step x).2 = er at *
                        have be : (er == 0) = false := by simp [hr]
                        have be2 : (er != 0) = true := by simp [hr]
                        clear hr
                        have hL2 := Lib.hid (fun (j : Int) (hj : j = 0 ∨ j = 1) (W : World) (h : CkAt W g c) => left_told hI (by omega) g j hj W h)
                        go_wp2_with fail
                        go_loopw [17] (fun i wx => (i = .int .i64 0 ∨ i = .int .i64 1 ∨ i = .int .i64 2) ∧ CkAt wx g c ∧ BfAt wx w3.heap.size (c.of 0, c.of 1) ∧ TmAt wx w.heap.size a b o l ∧ Below w.heap.size w wx)
                          (fun i _ => 2 - (intOf i).toNat)
                        case atStart => exact ⟨.inl rfl, hC7, hP7, hT7, hB7⟩
                        case round =>
                          obtain ⟨(rfl | rfl | rfl), hC8, hP8, hT8, hB8⟩ := hrel
                          · as_aux_lemma =>
                              have hLj := Lib.hid (fun (W : World) (h : CkAt W g c) => hL2.out 0 (.inl rfl) W h)
                              go_wp2_with (go_at_call 24; refine (hLj.out _ hC8).mono ?_; rintro e w9 ⟨rfl, hb9⟩; have hP9 := hP8.below hb9; have hT9 := hT8.below hb9; obtain ⟨v0, v1, vf, vz⟩ := hP9.cells)
                              go_roundw
                              case rel => exact ⟨.inr (.inl rfl), hC8.below hb9 hC8.z, hP9, hT9, b_call hB8 hb9⟩
                              case measure => simp [intOf]
                          · as_aux_lemma =>
                              have hLj := Lib.hid (fun (W : World) (h : CkAt W g c) => hL2.out 1 (.inr rfl) W h)
                              go_wp2_with (go_at_call 24; refine (hLj.out _ hC8).mono ?_; rintro e w9 ⟨rfl, hb9⟩; have hP9 := hP8.below hb9; have hT9 := hT8.below hb9; obtain ⟨v0, v1, vf, vz⟩ := hP9.cells)
                              go_roundw
                              case rel => exact ⟨.inr (.inr rfl), hC8.below hb9 hC8.z, hP9, hT9, b_call hB8 hb9⟩
                              case measure => simp [intOf]
                          · go_wp2_with fail
                            go_roundw
                            case rel => exact ⟨k + 1, c, by omega, by go_num, rfl, hC8, hI.more, hel, hT8, hB8⟩
                            case measure => simp [intOf]; omega
                  · have b1 : (x.what == 1) = false := by simp; omega
                    have b2 : (x.what == 2) = false := by simp; omega
                    have b3 : (x.what == 3) = false := by simp; omega
                    have b4 : (x.what == 4) = false := by simp; omega
                    clear hdef
                    go_wp2_with fail
                    go_roundw
                    case rel => exact ⟨k + 1, c, by omega, by go_num, rfl, hC4, hI.more, hel, hT4, hB5⟩
                    case measure => simp [intOf]; omega
        · obtain rfl : k = list.length := by omega
          go_wp2_with (go_at_call 10; refine (haw.out _ (by (repeat (first | (with_reducible exact Below.refl _ _) | (with_reducible assumption) | (with_reducible refine b_alloc ?_) | (with_reducible refine b_drew ?_) | (with_reducible refine b_drewN ?_) | (with_reducible refine b_set ?_ (by first | (simp; done) | (dsimp only; omega))) | (with_reducible refine b_call ?_ (by assumption)))))).mono ?_; rintro e w1 ⟨rfl, hb1⟩)
          go_ret
          exact ⟨rfl, by (repeat (first | (with_reducible exact Below.refl _ _) | (with_reducible assumption) | (with_reducible refine b_alloc ?_) | (with_reducible refine b_drew ?_) | (with_reducible refine b_drewN ?_) | (with_reducible refine b_set ?_ (by first | (simp; done) | (dsimp only; omega))) | (with_reducible refine b_call ?_ (by assumption))))⟩
    · have hok2 := Bool.eq_false_iff.2 hok
      have hnew := Lib.hid (fun (W : World) => NewClock_bad a b o l W hok2)
      clear hok hok2
      go_enter Tryd.func7, Tryd.ntmps7
      go_wp2_with (first
        | (go_at_call 21; refine (hnew.out _).mono ?_; rintro e w1 ⟨rfl, hb1⟩)
        | (go_at_call 10; refine (haw.out _ (by (repeat (first | (with_reducible exact Below.refl _ _) | (with_reducible assumption) | (with_reducible refine b_alloc ?_) | (with_reducible refine b_drew ?_) | (with_reducible refine b_drewN ?_) | (with_reducible refine b_set ?_ (by first | (simp; done) | (dsimp only; omega))) | (with_reducible refine b_call ?_ (by assumption)))))).mono ?_; rintro e w2 ⟨rfl, hb2⟩))
      go_ret
      exact ⟨rfl, by (repeat (first | (with_reducible exact Below.refl _ _) | (with_reducible assumption) | (with_reducible refine b_alloc ?_) | (with_reducible refine b_drew ?_) | (with_reducible refine b_drewN ?_) | (with_reducible refine b_set ?_ (by first | (simp; done) | (dsimp only; omega))) | (with_reducible refine b_call ?_ (by assumption))))⟩
end Go.Proofs.YtenofigclkbbiaaDoor
