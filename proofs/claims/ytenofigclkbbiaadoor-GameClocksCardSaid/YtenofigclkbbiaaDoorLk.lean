/-
  GameClocks: a clock answers as the document says, call by call: the walk.
-/
import Derived.Test.YtenofigclkbbiaaDoorAw
import Derived.Test.YtenofigclkbbiaaDoorStp
import Derived.Deep.DeepCutAuto
import Derived.Deep.CutBlock
set_option linter.unusedVariables false
set_option linter.unusedSimpArgs false
namespace Go.Proofs.YtenofigclkbbiaaDoor
open Go.RowKit
open Game
theorem CkAt.only {w W : World} {g k : Nat} {c : Ck} (h : CkAt w g c) (hb : OnlyAt w W k) (hk : g ≠ k) : CkAt W g c := h.kept (hb.block g h.z (fun e => hk (by cases e; rfl))) (Nat.lt_of_lt_of_le h.z hb.size)
theorem RcAt.only {w W : World} {g k : Nat} {c : Ck} (h : RcAt w g c) (hb : OnlyAt w W k) (hk : g ≠ k) : RcAt W g c := h.kept (hb.block g (Array.getElem?_eq_some_iff.1 h).1 (fun e => hk (by cases e; rfl)))
theorem CkAt.off {w W : World} {g : Nat} {c : Ck} (h : CkAt w g c) (hb : W.heap[g]? = w.heap[g]?) : CkAt W g c := h.kept hb (by
  have hz := h.z
  rcases Nat.lt_or_ge g W.heap.size with hl | hl
  · exact hl
  · rw [Array.getElem?_eq_none hl, Array.getElem?_eq_getElem hz] at hb; cases hb)
theorem new_rc (a b o l : Int) (w : World) : RcAt (w.alloc (.cells #[.int .i64 a, .int .i64 b, .int .i64 o, .int .i64 l, .int .i64 a, .int .i64 a, .int .i64 o, .int .i64 o, .int .i64 0, .int .i64 (-1), .int .i64 0] 64)) w.heap.size (Ck.new a b o l) := alloc_at w _
set_option maxHeartbeats 8000000 in
set_option maxRecDepth 100000 in
theorem GameClocks_walk (a b o l : Int) (A : Option Addr) (cap : Nat) (list : List Pr) (w : World) (hc : Prs w A list) (hcap : list.length ≤ cap) (htab : Tab w) :
    Calls Tryd.prog 8 #[.agg #[.int .i64 a, .int .i64 b, .int .i64 o, .int .i64 l], .slice A list.length cap] w fun e w' => e = .returned (.bool true) ∧ Below w.heap.size w w' := by
  have haw := Lib.hid (fun (W : World) (hW : Below w.heap.size w W) => awake_any W (htab.below hW (Nat.le_refl _)))
  have hln := hc.1
  by_cases h200 : 200 < list.length
  · go_enter Tryd.func8, Tryd.ntmps8
    go_wp2_with (go_at_call 10; refine (haw.out _ (by (repeat (first | (with_reducible exact Below.refl _ _) | (with_reducible assumption) | (with_reducible refine b_alloc ?_) | (with_reducible refine b_drew ?_) | (with_reducible refine b_drewN ?_) | (with_reducible refine b_set ?_ (by first | (simp; done) | (dsimp only; omega))) | (with_reducible refine b_call ?_ (by assumption)))))).mono ?_; rintro e w1 ⟨rfl, hb1⟩)
    go_ret
    exact ⟨rfl, by (repeat (first | (with_reducible exact Below.refl _ _) | (with_reducible assumption) | (with_reducible refine b_alloc ?_) | (with_reducible refine b_drew ?_) | (with_reducible refine b_drewN ?_) | (with_reducible refine b_set ?_ (by first | (simp; done) | (dsimp only; omega))) | (with_reducible refine b_call ?_ (by assumption))))⟩
  · have tcell : ∀ (W : World), Below (w.heap.size + 1) (w.alloc (.cells #[.int .i64 a, .int .i64 b, .int .i64 o, .int .i64 l] 47)) W → W.cell? ⟨w.heap.size, 0, none⟩ = some (.int .i64 a) ∧ W.cell? ⟨w.heap.size, 1, none⟩ = some (.int .i64 b) ∧ W.cell? ⟨w.heap.size, 2, none⟩ = some (.int .i64 o) ∧ W.cell? ⟨w.heap.size, 3, none⟩ = some (.int .i64 l) := by
      intro W hW
      have h0 := alloc_at w (.cells #[.int .i64 a, .int .i64 b, .int .i64 o, .int .i64 l] 47)
      have h1 := (hW.block _ (by omega)).trans h0
      exact ⟨cell_of_row _ _ 0 _ _ (0, 0) h1, cell_of_row _ _ 1 _ _ (0, 0) h1, cell_of_row _ _ 2 _ _ (0, 0) h1, cell_of_row _ _ 3 _ _ (0, 0) h1⟩
    have Htc := Lib.hid tcell
    clear tcell
    have hb0 : Below (w.heap.size + 1) (w.alloc (.cells #[.int .i64 a, .int .i64 b, .int .i64 o, .int .i64 l] 47)) (w.alloc (.cells #[.int .i64 a, .int .i64 b, .int .i64 o, .int .i64 l] 47)) := Below.refl _ _
    by_cases hok : timesOk a b o l = true
    · have hnew := Lib.hid (fun (W : World) => NewClock_good a b o l W hok)
      have hct := Lib.hid (fun (W : World) => CheckTimes_any a b o l W)
      have hrt := Lib.hid (fun (W : World) => rCheckTimes_any a b o l W)
      have hok' := Lib.hid hok
      rw [hok] at hct hrt
      have hI0 := Ck.Inv.new hok
      clear hok
      go_enter Tryd.func8, Tryd.ntmps8
      go_wp2_with (first
        | (go_at_call 21; refine (hnew.out _).mono ?_; rintro e w1 ⟨g, rfl, hg, hC1, hb1⟩; have hB1 := hb0.trans (hb1.mono (by simp)); obtain ⟨q0, q1, q2, q3⟩ := Htc.out _ hB1; have hz1 := hb1.size)
        | (go_at_call 29; refine (hrt.out _).mono ?_; rintro e w2 ⟨rfl, hb2⟩; have hB2 := hB1.trans (hb2.mono (by simp at hz1; omega)); obtain ⟨r0, r1, r2, r3⟩ := Htc.out _ hB2; have hz2 := hb2.size)
        | (go_at_call 30; refine (hct.out _).mono ?_; rintro e w3 ⟨rfl, hb3⟩; have hB3 := hB2.trans (hb3.mono (by simp at hz1; omega)); obtain ⟨p0, p1, p2, p3⟩ := Htc.out _ hB3; have hz3 := hb3.size)
        | (go_at_call 31; refine (rNewClock_any a b o l _).mono ?_; rintro e w4 ⟨rfl, hb4⟩; have hB4 := hB3.trans (hb4.mono (by simp at hz1; omega)); have hz4 := hb4.size))
      have hC4 := ((hC1.below hb2 hC1.z).below hb3 (by have := hC1.z; omega)).below hb4 (by have := hC1.z; omega)
      have hC5 := hC4.off (alloc_old w4 (.cells #[.int .i64 a, .int .i64 b, .int .i64 o, .int .i64 l, .int .i64 a, .int .i64 a, .int .i64 o, .int .i64 o, .int .i64 0, .int .i64 (-1), .int .i64 0] 64) hC4.z)
      have hR5 := new_rc a b o l w4
      have hB5 : Below w.heap.size w (w4.alloc (.cells #[.int .i64 a, .int .i64 b, .int .i64 o, .int .i64 l, .int .i64 a, .int .i64 a, .int .i64 o, .int .i64 o, .int .i64 0, .int .i64 (-1), .int .i64 0] 64)) := b_alloc (b_below (b_alloc (Below.refl _ _)) hB4 (by omega))
      have hgz := hC4.z
      have hwg : w.heap.size ≤ g := by simp at hg; omega
      have hw4 : w.heap.size ≤ w4.heap.size := by omega
      clear q0 q1 q2 q3 r0 r1 r2 r3 p0 p1 p2 p3 hB1 hB2 hB3 hB4 hC1 hC4 hb1 hb2 hb3 hb4 hb0 hnew hct hrt hg hz1 hz2 hz3 hz4 Htc
      go_loopw [9] (fun i wr => ∃ (k : Nat) (c : Ck), k ≤ list.length ∧ i = .int .i64 k ∧ CkAt wr g c ∧ RcAt wr w4.heap.size c ∧ c.Inv k ∧ Below w.heap.size w wr)
        (fun i _ => list.length - (intOf i).toNat)
      case atStart => exact ⟨0, Ck.new a b o l, by omega, rfl, hC5, hR5, hI0, hB5⟩
      case round =>
        clear hC5 hR5 hI0 hB5
        obtain ⟨k, c, hk, rfl, hC, hR, hI, hB⟩ := hrel
        by_cases hlt : k < list.length
        · obtain ⟨ad, x, rfl, hadb, hx, x0, x1, x2, x3⟩ := hc.at_ hB hlt
          have hzr := hB.size
          obtain ⟨e0, e1, e2, e3, e4, e5, e6, e7, e8, e9, e10, ef, ez⟩ := hR.cells
          by_cases hbig : 1099511627776 < x.t
          · go_wp2_with (go_at_call 10; refine (haw.out _ (by (repeat (first | (with_reducible exact Below.refl _ _) | (with_reducible assumption) | (with_reducible refine b_alloc ?_) | (with_reducible refine b_drew ?_) | (with_reducible refine b_drewN ?_) | (with_reducible refine b_set ?_ (by first | (simp; done) | (dsimp only; omega))) | (with_reducible refine b_call ?_ (by assumption)))))).mono ?_; rintro e w1 ⟨rfl, hb1⟩)
            go_ret
            exact ⟨rfl, by (repeat (first | (with_reducible exact Below.refl _ _) | (with_reducible assumption) | (with_reducible refine b_alloc ?_) | (with_reducible refine b_drew ?_) | (with_reducible refine b_drewN ?_) | (with_reducible refine b_set ?_ (by first | (simp; done) | (dsimp only; omega))) | (with_reducible refine b_call ?_ (by assumption))))⟩
          · by_cases hlow : x.t < -1099511627776
            · go_wp2_with (go_at_call 10; refine (haw.out _ (by (repeat (first | (with_reducible exact Below.refl _ _) | (with_reducible assumption) | (with_reducible refine b_alloc ?_) | (with_reducible refine b_drew ?_) | (with_reducible refine b_drewN ?_) | (with_reducible refine b_set ?_ (by first | (simp; done) | (dsimp only; omega))) | (with_reducible refine b_call ?_ (by assumption)))))).mono ?_; rintro e w1 ⟨rfl, hb1⟩)
              go_ret
              exact ⟨rfl, by (repeat (first | (with_reducible exact Below.refl _ _) | (with_reducible assumption) | (with_reducible refine b_alloc ?_) | (with_reducible refine b_drew ?_) | (with_reducible refine b_drewN ?_) | (with_reducible refine b_set ?_ (by first | (simp; done) | (dsimp only; omega))) | (with_reducible refine b_call ?_ (by assumption))))⟩
            · have hat := at_any x.what x.team x.t x.later c.now wr.drew (by omega) (by have := hI.now; omega)
              have hokc := hI.ok (by omega)
              have htm := hI.team
              have hstep := Lib.hid (hI.step (x := x))
              go_wp2_with fail
              go_still_tail 6, (by kernel_rfl)
              change wpList _ _ _ _ _ wr.drew
              go_wp2_with fail
              refine hat.mono ?_
              rintro e w5 ⟨rfl, hb5⟩
              have hb5' := b_call (b_drew (Below.refl wr.heap.size wr)) hb5
              have hz5 := hb5'.size
              have hCa := hC.below hb5' hC.z
              have hRa := hR.below hb5'
              have hBa := b_call hB hb5'
              have hadb' : ad.block < wr.heap.size := by omega
              have y0 := (hb5'.cell (p := ad.add (k * 4)) (by rw [add_block]; exact hadb')).trans x0
              have y1 := (hb5'.cell (p := ⟨(ad.add (k * 4)).block, (ad.add (k * 4)).off + 1, none⟩) (by simp only [add_block]; exact hadb')).trans x1
              clear x0 x1 x2 x3 e0 e1 e2 e3 e4 e5 e6 e7 e8 e9 e10 ef ez hC hR hB hat hb5 hb5'
              obtain ⟨T, hT⟩ : ∃ T, T = atOf x.what x.team x.t x.later c.now := ⟨_, rfl⟩
              rw [← hT]
              have HT := Lib.hid hT
              clear hT
              obtain ⟨e0, e1, e2, e3, e4, e5, e6, e7, e8, e9, e10, ef, ez⟩ := hRa.cells
              have hgw : w4.heap.size ≠ g := by omega
              go_upto_block 2 with fail
              go_cut [11, 12] (fun s11 s12 wx => s11 = .int .i64 (c.step x).2 ∧ s12 = .int .i64 (c.step x).2 ∧ CkAt wx g (c.step x).1 ∧ RcAt wx w4.heap.size (c.step x).1 ∧ Below w.heap.size w wx)
              case first =>
                by_cases h1 : x.what = 1
                · have h1a : (x.what == 1) = true := by simpa using h1
                  have hst : c.step x = c.start x.team T := by unfold Ck.step Pr.time; rw [← HT.out]; simp [h1]
                  have HS := Lib.hid hst
                  clear hst h1
                  go_wp2_with fail
                  refine (Start_any g c x.team T _ hCa hokc).mono ?_
                  rintro e w6 ⟨rfl, hC6, hO6⟩
                  have hR6 := hRa.only hO6 hgw
                  have hB6 := b_onlyAt hBa hO6 hwg
                  have hz6 := hO6.size
                  have u1 := (World.cell?_of_block (a := ⟨(ad.add (k * 4)).block, (ad.add (k * 4)).off + 1, none⟩) (hO6.block (ad.add (k * 4)).block (by rw [add_block]; omega) (fun e => absurd (Option.some.inj e) (by rw [add_block]; omega)))).trans y1
                  clear e0 e1 e2 e3 e4 e5 e6 e7 e8 e9 e10 ef ez
                  obtain ⟨e0, e1, e2, e3, e4, e5, e6, e7, e8, e9, e10, ef, ez⟩ := hR6.cells
                  go_wp2_with fail
                  go_region_with (go_at_call 32; refine (rStart_any c x.team T _ hokc htm).mono ?_; rintro e w7 ⟨rfl, hb7⟩; have hR7 := hR6.below (b_call (by (repeat (first | (with_reducible exact Below.refl _ _) | (with_reducible assumption) | (with_reducible refine b_alloc ?_) | (with_reducible refine b_drew ?_) | (with_reducible refine b_drewN ?_) | (with_reducible refine b_set ?_ (by first | (simp; done) | (dsimp only; omega))) | (with_reducible refine b_call ?_ (by assumption))))) hb7); obtain ⟨u0, u1', u2, u3, u4, u5, u6, u7, u8, u9, u10, uf, uz⟩ := hR7.cells)
                  all_goals
                    have hb7' : Below w6.heap.size w6 w7 := b_call (by (repeat (first | (with_reducible exact Below.refl _ _) | (with_reducible assumption) | (with_reducible refine b_alloc ?_) | (with_reducible refine b_drew ?_) | (with_reducible refine b_drewN ?_) | (with_reducible refine b_set ?_ (by first | (simp; done) | (dsimp only; omega))) | (with_reducible refine b_call ?_ (by assumption))))) hb7
                    have hC7 := hC6.below hb7' hC6.z
                    have hB7 := b_call hB6 hb7'
                    go_wp2_with fail
                    go_meet
                    rw [HS.out]
                    exact ⟨rfl, rfl, hC7.off (heap_set11 (Ne.symm hgw)), hR7.store _, by (repeat (first | (with_reducible exact Below.refl _ _) | (with_reducible assumption) | (with_reducible refine b_alloc ?_) | (with_reducible refine b_drew ?_) | (with_reducible refine b_drewN ?_) | (with_reducible refine b_set ?_ (by first | (simp; done) | (dsimp only; omega))) | (with_reducible refine b_call ?_ (by assumption))))⟩
                · have h1b : (x.what == 1) = false := by simpa using h1
                  by_cases h2 : x.what = 2
                  · have h2a : (x.what == 2) = true := by simpa using h2
                    have hst : c.step x = c.stop T := by unfold Ck.step Pr.time; rw [← HT.out]; simp [h2]
                    have HS := Lib.hid hst
                    clear hst h1 h2
                    go_wp2_with fail
                    refine (Stop_any g c T _ hCa hokc).mono ?_
                    rintro e w6 ⟨rfl, hC6, hO6⟩
                    have hR6 := hRa.only hO6 hgw
                    have hB6 := b_onlyAt hBa hO6 hwg
                    have hz6 := hO6.size
                    have u1 := (World.cell?_of_block (a := ⟨(ad.add (k * 4)).block, (ad.add (k * 4)).off + 1, none⟩) (hO6.block (ad.add (k * 4)).block (by rw [add_block]; omega) (fun e => absurd (Option.some.inj e) (by rw [add_block]; omega)))).trans y1
                    clear e0 e1 e2 e3 e4 e5 e6 e7 e8 e9 e10 ef ez
                    obtain ⟨e0, e1, e2, e3, e4, e5, e6, e7, e8, e9, e10, ef, ez⟩ := hR6.cells
                    go_wp2_with fail
                    refine (rStop_any c T _ hokc htm).mono ?_
                    rintro e w7 ⟨rfl, hb7⟩
                    have hb7' := hb7
                    have hR7 := hR6.below hb7'
                    have hC7 := hC6.below hb7' hC6.z
                    have hB7 := b_call hB6 hb7'
                    clear e0 e1 e2 e3 e4 e5 e6 e7 e8 e9 e10 ef ez
                    obtain ⟨e0, e1, e2, e3, e4, e5, e6, e7, e8, e9, e10, ef, ez⟩ := hR7.cells
                    go_wp2_with fail
                    go_meet
                    rw [HS.out]
                    exact ⟨rfl, rfl, hC7.off (heap_set11 (Ne.symm hgw)), hR7.store _, by (repeat (first | (with_reducible exact Below.refl _ _) | (with_reducible assumption) | (with_reducible refine b_alloc ?_) | (with_reducible refine b_drew ?_) | (with_reducible refine b_drewN ?_) | (with_reducible refine b_set ?_ (by first | (simp; done) | (dsimp only; omega))) | (with_reducible refine b_call ?_ (by assumption))))⟩
                  · have h2b : (x.what == 2) = false := by simpa using h2
                    by_cases h3 : x.what = 3
                    · have h3a : (x.what == 3) = true := by simpa using h3
                      have hst : c.step x = c.out x.team T := by unfold Ck.step Pr.time; rw [← HT.out]; simp [h3]
                      have HS := Lib.hid hst
                      clear hst h1 h2 h3
                      go_wp2_with fail
                      refine (Out_any g c x.team T _ hCa hokc hI.len ⟨hI.o0, hI.o1⟩).mono ?_
                      rintro e w6 ⟨rfl, hC6, hO6⟩
                      have hR6 := hRa.only hO6 hgw
                      have hB6 := b_onlyAt hBa hO6 hwg
                      have hz6 := hO6.size
                      have u1 := (World.cell?_of_block (a := ⟨(ad.add (k * 4)).block, (ad.add (k * 4)).off + 1, none⟩) (hO6.block (ad.add (k * 4)).block (by rw [add_block]; omega) (fun e => absurd (Option.some.inj e) (by rw [add_block]; omega)))).trans y1
                      clear e0 e1 e2 e3 e4 e5 e6 e7 e8 e9 e10 ef ez
                      obtain ⟨e0, e1, e2, e3, e4, e5, e6, e7, e8, e9, e10, ef, ez⟩ := hR6.cells
                      go_wp2_with fail
                      go_region_with (go_at_call 34; refine (rOut_any c x.team T _ hokc htm hI.len ⟨hI.o0, hI.o1⟩).mono ?_; rintro e w7 ⟨rfl, hb7⟩; have hR7 := hR6.below (b_call (by (repeat (first | (with_reducible exact Below.refl _ _) | (with_reducible assumption) | (with_reducible refine b_alloc ?_) | (with_reducible refine b_drew ?_) | (with_reducible refine b_drewN ?_) | (with_reducible refine b_set ?_ (by first | (simp; done) | (dsimp only; omega))) | (with_reducible refine b_call ?_ (by assumption))))) hb7); obtain ⟨u0, u1', u2, u3, u4, u5, u6, u7, u8, u9, u10, uf, uz⟩ := hR7.cells)
                      all_goals
                        have hb7' : Below w6.heap.size w6 w7 := b_call (by (repeat (first | (with_reducible exact Below.refl _ _) | (with_reducible assumption) | (with_reducible refine b_alloc ?_) | (with_reducible refine b_drew ?_) | (with_reducible refine b_drewN ?_) | (with_reducible refine b_set ?_ (by first | (simp; done) | (dsimp only; omega))) | (with_reducible refine b_call ?_ (by assumption))))) hb7
                        have hC7 := hC6.below hb7' hC6.z
                        have hB7 := b_call hB6 hb7'
                        go_wp2_with fail
                        go_meet
                        rw [HS.out]
                        exact ⟨rfl, rfl, hC7.off (heap_set11 (Ne.symm hgw)), hR7.store _, by (repeat (first | (with_reducible exact Below.refl _ _) | (with_reducible assumption) | (with_reducible refine b_alloc ?_) | (with_reducible refine b_drew ?_) | (with_reducible refine b_drewN ?_) | (with_reducible refine b_set ?_ (by first | (simp; done) | (dsimp only; omega))) | (with_reducible refine b_call ?_ (by assumption))))⟩
                    · have h3b : (x.what == 3) = false := by simpa using h3
                      by_cases h4 : x.what = 4
                      · have h4a : (x.what == 4) = true := by simpa using h4
                        have hst : c.step x = c.extra T := by unfold Ck.step Pr.time; rw [← HT.out]; simp [h4]
                        have HS := Lib.hid hst
                        clear hst h1 h2 h3 h4
                        go_wp2_with fail
                        refine (Extra_any g c T _ hCa hokc hI.ext).mono ?_
                        rintro e w6 ⟨rfl, hC6, hO6⟩
                        have hR6 := hRa.only hO6 hgw
                        have hB6 := b_onlyAt hBa hO6 hwg
                        have hz6 := hO6.size
                        have u1 := (World.cell?_of_block (a := ⟨(ad.add (k * 4)).block, (ad.add (k * 4)).off + 1, none⟩) (hO6.block (ad.add (k * 4)).block (by rw [add_block]; omega) (fun e => absurd (Option.some.inj e) (by rw [add_block]; omega)))).trans y1
                        clear e0 e1 e2 e3 e4 e5 e6 e7 e8 e9 e10 ef ez
                        obtain ⟨e0, e1, e2, e3, e4, e5, e6, e7, e8, e9, e10, ef, ez⟩ := hR6.cells
                        go_wp2_with fail
                        refine (rExtra_any c T _ hokc htm hI.ext).mono ?_
                        rintro e w7 ⟨rfl, hb7⟩
                        have hb7' := hb7
                        have hR7 := hR6.below hb7'
                        have hC7 := hC6.below hb7' hC6.z
                        have hB7 := b_call hB6 hb7'
                        clear e0 e1 e2 e3 e4 e5 e6 e7 e8 e9 e10 ef ez
                        obtain ⟨e0, e1, e2, e3, e4, e5, e6, e7, e8, e9, e10, ef, ez⟩ := hR7.cells
                        go_wp2_with fail
                        go_meet
                        rw [HS.out]
                        exact ⟨rfl, rfl, hC7.off (heap_set11 (Ne.symm hgw)), hR7.store _, by (repeat (first | (with_reducible exact Below.refl _ _) | (with_reducible assumption) | (with_reducible refine b_alloc ?_) | (with_reducible refine b_drew ?_) | (with_reducible refine b_drewN ?_) | (with_reducible refine b_set ?_ (by first | (simp; done) | (dsimp only; omega))) | (with_reducible refine b_call ?_ (by assumption))))⟩
                      · have h4b : (x.what == 4) = false := by simpa using h4
                        have hst : c.step x = (c, c.wrong x.team T) := by unfold Ck.step Pr.time; rw [← HT.out]; simp [h1, h2, h3, h4]
                        clear h1 h2 h3 h4
                        have q1 := fun (W : World) (h : CkAt W g c) => cLeft_any g c x.team T W h hokc
                        have q2 := fun (W : World) => rLeft_any c x.team T W hokc htm
                        generalize (if c.wrong x.team T = 0 then c.left x.team T else 0) = z1 at q1 q2
                        generalize c.wrong x.team T = z2 at q1 q2 hst
                        have HS := Lib.hid hst
                        clear hst
                        have Hq1 := Lib.hid q1
                        have Hq2 := Lib.hid q2
                        clear q1 q2
                        go_wp2_with fail
                        refine (Hq1.out _ hCa).mono ?_
                        rintro e w6 ⟨rfl, hb6⟩
                        have hR6 := hRa.below hb6
                        have hC6 := hCa.below hb6 hCa.z
                        have hB6 := b_call hBa hb6
                        have u1 := (hb6.cell (p := ⟨(ad.add (k * 4)).block, (ad.add (k * 4)).off + 1, none⟩) (by simp only [add_block]; omega)).trans y1
                        clear e0 e1 e2 e3 e4 e5 e6 e7 e8 e9 e10 ef ez
                        obtain ⟨e0, e1, e2, e3, e4, e5, e6, e7, e8, e9, e10, ef, ez⟩ := hR6.cells
                        go_wp2_with fail
                        go_region_with (go_at_call 36; refine (Hq2.out _).mono ?_; rintro e w7 ⟨rfl, hb7⟩)
                        all_goals
                          have hb7' : Below w6.heap.size w6 w7 := b_call (by (repeat (first | (with_reducible exact Below.refl _ _) | (with_reducible assumption) | (with_reducible refine b_alloc ?_) | (with_reducible refine b_drew ?_) | (with_reducible refine b_drewN ?_) | (with_reducible refine b_set ?_ (by first | (simp; done) | (dsimp only; omega))) | (with_reducible refine b_call ?_ (by assumption))))) hb7
                          go_wp2_with fail
                          go_meet
                          rw [HS.out]
                          exact ⟨rfl, rfl, hC6.below hb7' hC6.z, hR6.below hb7', b_call hB6 hb7'⟩
              case rest =>
                obtain ⟨rfl, rfl, hCx, hRx, hBx⟩ := hcut
                have hI2 := hstep.out
                have hzx := hBx.size
                generalize c.step x = r at *
                clear e0 e1 e2 e3 e4 e5 e6 e7 e8 e9 e10 ef ez hCa hRa hBa
                obtain ⟨e0, e1, e2, e3, e4, e5, e6, e7, e8, e9, e10, ef, ez⟩ := hRx.cells
                go_wp2_with (go_at_call 37; refine (alike_any g r.1 _ hCx (hI2.ok (by omega)) hI2.team).mono ?_; rintro e w8 ⟨rfl, hb8⟩)
                go_roundw
                case rel => exact ⟨k + 1, r.1, by omega, by go_num, hCx.below hb8 hCx.z, hRx.below hb8, hI2, b_call hBx hb8⟩
                case measure => simp [intOf]; omega
        · obtain rfl : k = list.length := by omega
          go_wp2_with (go_at_call 10; refine (haw.out _ (by (repeat (first | (with_reducible exact Below.refl _ _) | (with_reducible assumption) | (with_reducible refine b_alloc ?_) | (with_reducible refine b_drew ?_) | (with_reducible refine b_drewN ?_) | (with_reducible refine b_set ?_ (by first | (simp; done) | (dsimp only; omega))) | (with_reducible refine b_call ?_ (by assumption)))))).mono ?_; rintro e w1 ⟨rfl, hb1⟩)
          go_ret
          exact ⟨rfl, by (repeat (first | (with_reducible exact Below.refl _ _) | (with_reducible assumption) | (with_reducible refine b_alloc ?_) | (with_reducible refine b_drew ?_) | (with_reducible refine b_drewN ?_) | (with_reducible refine b_set ?_ (by first | (simp; done) | (dsimp only; omega))) | (with_reducible refine b_call ?_ (by assumption))))⟩
    · have hok2 := Bool.eq_false_iff.2 hok
      have hnew := Lib.hid (fun (W : World) => NewClock_bad a b o l W hok2)
      have hct := Lib.hid (fun (W : World) => CheckTimes_any a b o l W)
      have hrt := Lib.hid (fun (W : World) => rCheckTimes_any a b o l W)
      rw [hok2] at hct hrt
      clear hok hok2
      go_enter Tryd.func8, Tryd.ntmps8
      go_wp2_with (first
        | (go_at_call 21; refine (hnew.out _).mono ?_; rintro e w1 ⟨rfl, hb1⟩; have hB1 := hb0.trans (hb1.mono (by simp)); obtain ⟨q0, q1, q2, q3⟩ := Htc.out _ hB1; have hz1 := hb1.size)
        | (go_at_call 29; refine (hrt.out _).mono ?_; rintro e w2 ⟨rfl, hb2⟩; have hB2 := hB1.trans (hb2.mono (by simp at hz1; omega)); obtain ⟨r0, r1, r2, r3⟩ := Htc.out _ hB2; have hz2 := hb2.size)
        | (go_at_call 30; refine (hct.out _).mono ?_; rintro e w3 ⟨rfl, hb3⟩; have hB3 := hB2.trans (hb3.mono (by simp at hz1; omega)); have hB3' := b_below (b_alloc (Below.refl w.heap.size w)) hB3 (by omega))
        | (go_at_call 10; refine (haw.out _ (by (repeat (first | (with_reducible exact Below.refl _ _) | (with_reducible assumption) | (with_reducible refine b_alloc ?_) | (with_reducible refine b_drew ?_) | (with_reducible refine b_drewN ?_) | (with_reducible refine b_set ?_ (by first | (simp; done) | (dsimp only; omega))) | (with_reducible refine b_call ?_ (by assumption)))))).mono ?_; rintro e w4 ⟨rfl, hb4⟩))
      go_ret
      exact ⟨rfl, by (repeat (first | (with_reducible exact Below.refl _ _) | (with_reducible assumption) | (with_reducible refine b_alloc ?_) | (with_reducible refine b_drew ?_) | (with_reducible refine b_drewN ?_) | (with_reducible refine b_set ?_ (by first | (simp; done) | (dsimp only; omega))) | (with_reducible refine b_call ?_ (by assumption))))⟩
end Go.Proofs.YtenofigclkbbiaaDoor
