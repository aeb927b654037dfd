/-
  GameHammers: who has the hammer behind an end, and which power plays there are: the walk.
-/
import Derived.Test.YtenofigclkbbiaaDoorAw
import Derived.Test.YtenofigclkbbiaaDoorHf
import Derived.Test.YtenofigclkbbiaaDoorEq
import Derived.Deep.DeepCutAuto
set_option linter.unusedVariables false
set_option linter.unusedSimpArgs false
namespace Go.Proofs.YtenofigclkbbiaaDoor
open Go.RowKit
open Game
/-- Two numbers in a block of their own. -/
def PwAt (w : World) (g : Nat) (a b : Int) : Prop := w.heap[g]? = some (.cells #[.int .i64 a, .int .i64 b] 26 (0, 0))
theorem PwAt.cells {w : World} {g : Nat} {a b : Int} (h : PwAt w g a b) : w.cell? ⟨g, 0, none⟩ = some (.int .i64 a) ∧ w.cell? ⟨g, 1, none⟩ = some (.int .i64 b) ∧ (∀ o, w.frozen? ⟨g, o, none⟩ = false) ∧ g < w.heap.size := by
  have hl := (Array.getElem?_eq_some_iff.1 h).1
  unfold PwAt at h
  exact ⟨by simp [World.cell?, h], by simp [World.cell?, h], fun o => by simp [World.frozen?, h], hl⟩
theorem bl_add (a : Addr) (n : Nat) : (a.add n).block = a.block := by unfold Addr.add; split <;> rfl
theorem PwAt.kept {w W : World} {g : Nat} {a b : Int} (h : PwAt w g a b) (hb : W.heap[g]? = w.heap[g]?) : PwAt W g a b := hb.trans h
theorem PwAt.put0 {w : World} {g : Nat} {a b : Int} (h : PwAt w g a b) (c : Int) : PwAt (w.setCell ⟨g, 0, none⟩ (.int .i64 c)) g c b := by
  unfold PwAt at h ⊢; simp [World.setCell, Array.getElem?_modify, h]
theorem PwAt.put1 {w : World} {g : Nat} {a b : Int} (h : PwAt w g a b) (c : Int) : PwAt (w.setCell ⟨g, 1, none⟩ (.int .i64 c)) g a c := by
  unfold PwAt at h ⊢; simp [World.setCell, Array.getElem?_modify, h]
theorem Rd.at_ {w : World} {A : Option Addr} {xs : List Int} (h : Rd w A xs) {i : Nat} {x : Int} (hx : xs[i]? = some x) : ∃ ad, A = some ad ∧ w.cell? (ad.add i) = some (.int .i64 x) := by
  have hl := (List.getElem?_eq_some_iff.1 hx).1
  obtain ⟨ad, e, hc⟩ := h.2 (by omega)
  exact ⟨ad, e, hc i x hx⟩
set_option maxHeartbeats 8000000 in
set_option maxRecDepth 100000 in
theorem GameHammers_walk (m : Mt) (first : Int) (A : Option Addr) (cap : Nat) (card : List Ln) (w : World) (hc : Card w A card) (hcap : card.length ≤ cap) (htab : Tab w) :
    Calls Tryd.prog 6 #[mval m, .int .i64 first, .slice A card.length cap] w fun e w' => e = .returned (.bool true) ∧ Below w.heap.size w w' := by
  have Haw := Lib.hid (fun (W : World) (hW : Below w.heap.size w W) => awake_any W (htab.below hW (Nat.le_refl _)))
  have hln := hc.1
  have hpr := (fun (W : World) (hW : Below w.heap.size w W) => pReplay_any m first A cap card (-1) W (hc.in_.below hW (Nat.le_refl _) |>.to hW.size))
  have hph := (fun (W : World) (hW : Below w.heap.size w W) => pHammers_any m first A cap card W (hc.in_.below hW (Nat.le_refl _) |>.to hW.size) hcap)
  have hcB := hc.in_
  by_cases h60 : 60 < card.length
  · clear hpr hph
    go_enter Tryd.func6, Tryd.ntmps6
    go_wp2_with (go_at_call 10; refine (Haw.out _ (by (repeat (first | (with_reducible exact Below.refl _ _) | (with_reducible assumption) | (with_reducible refine b_alloc ?_) | (with_reducible refine b_drew ?_) | (with_reducible refine b_drewN ?_) | (with_reducible refine b_set ?_ (by first | (simp; done) | (dsimp only; omega))) | (with_reducible refine b_call ?_ (by assumption)))))).mono ?_; rintro e w1 ⟨rfl, hb1⟩)
    go_ret
    exact ⟨rfl, by (repeat (first | (with_reducible exact Below.refl _ _) | (with_reducible assumption) | (with_reducible refine b_alloc ?_) | (with_reducible refine b_drew ?_) | (with_reducible refine b_drewN ?_) | (with_reducible refine b_set ?_ (by first | (simp; done) | (dsimp only; omega))) | (with_reducible refine b_call ?_ (by assumption))))⟩
  · by_cases hok : (replay m first card (-1)).2.2 = 0
    · have hT := told_of hok
      obtain ⟨hlen, hline, hinv, hres, hham, hlast, hover, hstart, hmost, hends, hfirst⟩ := hT
      rw [hres] at hpr
      rw [hok] at hph
      have hhl : (hamsOf m first card).length ≤ 41 := by
        cases hov : (stAt m first card card.length).over
        · have := (hlast hov).1; omega
        · have := hover hov; omega
      have h0 : (hamsOf m first card)[0]? = some first := by
        rcases Nat.eq_zero_or_pos card.length with h0 | h0
        · have e : stAt m first card card.length = St.begun first := by rw [h0]; exact hstart
          have := (hlast (by rw [e]; rfl)).2
          rw [e, h0] at this
          exact this
        · have := hham 0 h0
          rw [hstart] at this
          exact this
      generalize hamsOf m first card = hs at *
      have Hline := Lib.hid hline
      have Hinv := Lib.hid hinv
      have Hham := Lib.hid hham
      have Hlast := Lib.hid hlast
      have Hover := Lib.hid hover
      have Hstart := Lib.hid hstart
      have Hh0 := Lib.hid h0
      have Hpr := Lib.hid hpr
      have Hph := Lib.hid hph
      clear hline hinv hham hlast hover hstart h0 hpr hph hok hres hc
      obtain ⟨hs0, hs1, hs2⟩ : (hs.length = card.length ∧ (stAt m first card card.length).over = true ∨ hs.length = card.length + 1 ∧ (stAt m first card card.length).over = false) ∧ 0 < hs.length ∧ True := by
        cases hov : (stAt m first card card.length).over
        · exact ⟨.inr ⟨(Hlast.out hov).1, rfl⟩, by have := (Hlast.out hov).1; omega, trivial⟩
        · exact ⟨.inl ⟨Hover.out hov, rfl⟩, (List.getElem?_eq_some_iff.1 Hh0.out).1, trivial⟩
      generalize hsn : stAt m first card card.length = sn at *
      have Hsn := Lib.hid hsn
      clear hsn hs2
      go_enter Tryd.func6, Tryd.ntmps6
      go_upto_region 7 with (first
        | (go_at_call 13; refine (Hph.out _ (by (repeat (first | (with_reducible exact Below.refl _ _) | (with_reducible assumption) | (with_reducible refine b_alloc ?_) | (with_reducible refine b_drew ?_) | (with_reducible refine b_drewN ?_) | (with_reducible refine b_set ?_ (by first | (simp; done) | (dsimp only; omega))) | (with_reducible refine b_call ?_ (by assumption)))))).mono ?_; rintro e w1 ⟨v1, rfl, hown1, hb1⟩; obtain ⟨A1, ca1, rfl, hR1, hRb1⟩ := own_rd hown1 (by omega); have hM1 : MtAt w1 w.heap.size m := (hb1.block _ (by simp)).trans (alloc_at w _); have hB1 := b_call (b_alloc (Below.refl w.heap.size w)) hb1; obtain ⟨q0, q1, q2, q3, q4, qf, qz⟩ := hM1.cells)
        | (go_at_call 11; refine (Hpr.out _ (by (repeat (first | (with_reducible exact Below.refl _ _) | (with_reducible assumption) | (with_reducible refine b_alloc ?_) | (with_reducible refine b_drew ?_) | (with_reducible refine b_drewN ?_) | (with_reducible refine b_set ?_ (by first | (simp; done) | (dsimp only; omega))) | (with_reducible refine b_call ?_ (by assumption)))))).mono ?_; rintro e w2 ⟨rfl, hb2⟩))
      have hM2 := hM1.below hb2
      have hR2 := hR1.below hb2 hRb1
      have hRb2 : ∀ ad, A1 = some ad → ad.block < w2.heap.size := fun ad e => by have := hRb1 ad e; have := hb2.size; omega
      have hB2 := b_call hB1 hb2
      clear q0 q1 q2 q3 q4 qf qz hb1 hb2 hown1 hM1 hR1 hRb1 hB1
      obtain ⟨wq, hwq⟩ : ∃ wq, wq = w2.alloc (.cells #[.int .i64 sn.p0, .int .i64 sn.p1, .int .i64 sn.ends, .int .i64 sn.hammer, .int .i64 sn.winner, .bool sn.over, .bool sn.extra, .bool sn.w0, .bool sn.w1] 29) := ⟨_, rfl⟩
      have hSq : StAt wq w2.heap.size sn := by rw [hwq]; exact alloc_at w2 _
      have hMq : MtAt wq w.heap.size m := by rw [hwq]; exact hM2.kept (alloc_old _ _ hM2.cells.2.2.2.2.2.2)
      have hRq : Rd wq A1 hs := by rw [hwq]; exact hR2.below (b_alloc (Below.refl _ _)) hRb2
      have hBq : Below w.heap.size w wq := by rw [hwq]; exact b_alloc hB2
      have hzq : wq.heap.size = w2.heap.size + 1 := by rw [hwq]; simp
      rw [← hwq]
      have hzq1 : w2.heap.size < wq.heap.size := by omega
      have hzm : w.heap.size < w2.heap.size := hM2.cells.2.2.2.2.2.2
      clear hwq hM2 hR2 hB2 hzq
      obtain ⟨ad1, rfl, hc0⟩ := hRq.at_ Hh0.out
      have hAq : ∀ W : World, Below wq.heap.size wq W → ∀ i x, hs[i]? = some x → W.cell? (ad1.add i) = some (.int .i64 x) := by
        intro W hW i x hx
        obtain ⟨ad', e, hcell⟩ := (hRq.below hW (fun ad e => by have := hRb2 ad e; omega)).at_ hx
        cases e; exact hcell
      have HAq := Lib.hid hAq
      clear hAq
      have hc0' : wq.cell? ad1 = some (.int .i64 first) := by simpa [Addr.add] using hc0
      obtain ⟨q0, q1, q2, q3, q4, qf, qz⟩ := hMq.cells
      obtain ⟨s0, s1, s2, s3, s4, s5, s6, s7, s8, sf, sz⟩ := hSq.cells
      have hle : card.length ≤ hs.length := by rcases hs0 with h | h <;> omega
      go_cut [86] (fun s86 wx => s86 = .bool false ∧ wx = wq)
      case first =>
        have hg0 : decide ((0 : Int) < hs.length) = true := decide_eq_true (by omega)
        rcases hs0 with ⟨hl, hov⟩ | ⟨hl, hov⟩
        · rw [hov] at s5
          have b1 : ((hs.length : Int) != card.length) = false := by simp [hl]
          have b2 : ((hs.length : Int) == card.length) = true := by simp [hl]
          clear hl hov
          go_wp2_with fail
          go_meet
          exact ⟨rfl, rfl⟩
        · rw [hov] at s5
          have b1 : ((hs.length : Int) != card.length) = true := by simp [hl]; omega
          have b2 : ((hs.length : Int) == card.length) = false := by simp [hl]; omega
          have b3 : ((hs.length : Int) != card.length + 1) = false := by simp [hl]
          clear hl hov
          go_wp2_with fail
          go_meet
          exact ⟨rfl, rfl⟩
      case rest =>
        obtain ⟨rfl, rfl⟩ := hcut
        clear q0 q1 q2 q3 q4 qf qz s0 s1 s2 s3 s4 s5 s6 s7 s8 sf sz hc0 hc0'
        have Hs0 := Lib.hid hs0
        clear hs0
        go_wp2_with fail
        go_loopw [13] (fun i wr => ∃ k : Nat, k ≤ card.length ∧ i = .int .i64 k ∧ PwAt wr wc.heap.size (b2i (stAt m first card k).w0) (b2i (stAt m first card k).w1) ∧ Below wc.heap.size wc wr)
          (fun i _ => card.length - (intOf i).toNat)
        case atStart => exact ⟨0, by omega, rfl, by rw [Hstart.out]; exact alloc_at _ _, b_alloc (Below.refl _ _)⟩
        case round =>
          obtain ⟨k, hk, rfl, hP, hB⟩ := hrel
          have hMr := hMq.below hB
          have hBr := b_call hBq hB
          by_cases hlt : k < card.length
          · obtain ⟨ad, x, rfl, hadb, hx, x0, x1, x2⟩ := ((hcB.below hBr (Nat.le_refl _)).to hBr.size).at_ hlt
            obtain ⟨hfit, hnext⟩ := Hline.out k x hx
            obtain ⟨f1, f2, f3, f4, f5⟩ := fits_parts hfit
            have hhk := Hham.out k hlt
            have hI := Hinv.out k hk
            have hc1 := HAq.out wr hB k _ hhk
            have hnx : k + 1 < hs.length → hs[k + 1]? = some (wanted m (stAt m first card k) x) := by
              intro hk1
              have ho : (stAt m first card (k + 1)).over = false := by
                rcases Nat.lt_or_ge (k + 1) card.length with h | h
                · have hx1 := List.getElem?_eq_getElem h
                  exact (fits_parts (Hline.out (k + 1) _ hx1).1).1
                · have he : k + 1 = card.length := by omega
                  rcases Hs0.out with ⟨hl, hov⟩ | ⟨hl, hov⟩
                  · omega
                  · rw [he, Hsn.out]; exact hov
              have hv : hs[k + 1]? = some (stAt m first card (k + 1)).hammer := by
                rcases Nat.lt_or_ge (k + 1) card.length with h | h
                · exact Hham.out _ h
                · have he : k + 1 = card.length := by omega
                  rw [he]
                  have := (Hlast.out (by rw [← Hsn.out, ← he]; exact ho))
                  rw [Hsn.out]
                  exact this.2
              rw [hv, hnext, behind_hammer (by rw [← hnext]; exact ho)]
            have hpw := behind_powers (m := m) (s := stAt m first card k) (x := x)
            rw [← hnext] at hpw
            have Hpw := Lib.hid hpw
            have hends' := hI.ends
            have hham' := hI.ham f1
            generalize stAt m first card k = S at *
            have Hnx := Lib.hid hnx
            have Hf5 := Lib.hid f5
            have hgz := hP.cells.2.2.2
            obtain ⟨p0, p1, p2, p3, p4, pf, pz⟩ := hMr.cells
            obtain ⟨w0, w1', wf, wz⟩ := hP.cells
            have hkl : (k : Int) < hs.length := by omega
            have had1 : ad1.block < wc.heap.size := by have := hRb2 ad1 rfl; omega
            have hadw : ad.block < w.heap.size := by
              obtain ⟨a', e, hb', _⟩ := (hcB.below hBr (Nat.le_refl _)).2 (by omega)
              cases e; exact hb'
            have hcs : ∀ c, (wr.setCell ⟨wc.heap.size, c, none⟩ (.int .i64 1)).cell? (ad1.add k) = wr.cell? (ad1.add k) := fun c => World.cell?_setCell_far _ _ _ _ (by rw [bl_add]; show wc.heap.size ≠ ad1.block; omega)
            have hcs2 : ∀ c, (wr.setCell ⟨wc.heap.size, c, none⟩ (.int .i64 1)).cell? ⟨ad1.block, ad1.off + (k + 1), none⟩ = wr.cell? ⟨ad1.block, ad1.off + (k + 1), none⟩ := fun c => World.cell?_setCell_far _ _ _ _ (by show wc.heap.size ≠ ad1.block; omega)
            have hk0 : (0 : Int) ≤ k := by omega
            clear hnx f5 hpw hnext hfit hx hhk f3 f4 hI hMr
            have Hham' := Lib.hid hham'
            have Hends' := Lib.hid hends'
            clear hham' hends'
            rcases Hham'.out with hha | hha
            · rw [hha] at hc1
              have Hha := Lib.hid hha
              cases hp : x.power
              · rw [hp] at x2
                have Hp := Lib.hid hp
                clear hp
                by_cases hk1 : k + 1 < hs.length
                · have hv := Hnx.out hk1
                  have hc2 := HAq.out wr hB (k + 1) _ hv
                  rw [Addr.add_succ'] at hc2
                  have hk1' : ¬ (hs.length : Int) ≤ k + 1 := by omega
                  have hk2 : ((k : Int) + 1) < hs.length := by omega
                  rcases f2 with hte | hte | hte
                  · rw [hte] at x0; (try rw [hte] at x0s)
                    have hte' : x.team = -1 := hte
                    cases hch : m.change
                    · rw [hch] at p3
                      simp only [wanted, hte', hch, if_true] at hc2
                      rw [hha] at hc2
                      simp at hc2
                      clear hte hte' hch hv hha
                      go_wp2_with fail
                      go_roundw
                      case rel => exact ⟨k + 1, by omega, by go_num, by rw [Hpw.out.1, Hpw.out.2, Hp.out]; simpa using hP, hB⟩
                      case measure => simp [intOf]; omega
                    · rw [hch] at p3
                      simp only [wanted, hte', hch, if_true] at hc2
                      rw [hha] at hc2
                      simp at hc2
                      clear hte hte' hch hv hha
                      go_wp2_with fail
                      go_roundw
                      case rel => exact ⟨k + 1, by omega, by go_num, by rw [Hpw.out.1, Hpw.out.2, Hp.out]; simpa using hP, hB⟩
                      case measure => simp [intOf]; omega
                  · rw [hte] at x0; (try rw [hte] at x0s)
                    simp [wanted, hte] at hc2
                    clear hte hv hha
                    go_wp2_with fail
                    go_roundw
                    case rel => exact ⟨k + 1, by omega, by go_num, by rw [Hpw.out.1, Hpw.out.2, Hp.out]; simpa using hP, hB⟩
                    case measure => simp [intOf]; omega
                  · rw [hte] at x0; (try rw [hte] at x0s)
                    simp [wanted, hte] at hc2
                    clear hte hv hha
                    go_wp2_with fail
                    go_roundw
                    case rel => exact ⟨k + 1, by omega, by go_num, by rw [Hpw.out.1, Hpw.out.2, Hp.out]; simpa using hP, hB⟩
                    case measure => simp [intOf]; omega
                · have hk1' : (hs.length : Int) ≤ k + 1 := by omega
                  clear hha
                  go_wp2_with fail
                  go_roundw
                  case rel => exact ⟨k + 1, by omega, by go_num, by rw [Hpw.out.1, Hpw.out.2, Hp.out]; simpa using hP, hB⟩
                  case measure => simp [intOf]; omega
              · rw [hp] at x2
                obtain ⟨g1, g2, g3⟩ := Hf5.out hp
                rw [g1] at p4
                have hw0 : S.w0 = false := by simpa [St.gone, hha] using g3
                rw [hw0] at w0
                simp only [b2i] at w0
                simp at w0
                have hke : ¬ m.ends ≤ (k : Int) := by have := Hends'.out; omega
                have Hp := Lib.hid hp
                have Hw := Lib.hid hw0
                have hc1s := (hcs 0).trans hc1
                have hps : ∀ o, (wr.setCell ⟨wc.heap.size, 0, none⟩ (.int .i64 1)).cell? ⟨w.heap.size, o, none⟩ = wr.cell? ⟨w.heap.size, o, none⟩ := fun o => World.cell?_setCell_far _ _ _ _ (Nat.ne_of_gt (Nat.lt_trans hzm hzq1))
                have x0s : (wr.setCell ⟨wc.heap.size, 0, none⟩ (.int .i64 1)).cell? (ad.add (k * 3)) = wr.cell? (ad.add (k * 3)) := World.cell?_setCell_far _ _ _ _ (by rw [bl_add]; show wc.heap.size ≠ ad.block; omega)
                rw [x0] at x0s
                clear hp g1 g2 g3 hw0
                by_cases hk1 : k + 1 < hs.length
                · have hv := Hnx.out hk1
                  have hc2 := HAq.out wr hB (k + 1) _ hv
                  rw [Addr.add_succ'] at hc2
                  have hk1' : ¬ (hs.length : Int) ≤ k + 1 := by omega
                  have hk2 : ((k : Int) + 1) < hs.length := by omega
                  rcases f2 with hte | hte | hte
                  · rw [hte] at x0; (try rw [hte] at x0s)
                    have hte' : x.team = -1 := hte
                    cases hch : m.change
                    · rw [hch] at p3
                      simp only [wanted, hte', hch, if_true] at hc2
                      rw [hha] at hc2
                      simp at hc2
                      clear hte hte' hch hv hha
                      go_wp2_with fail
                      go_roundw
                      case rel => exact ⟨k + 1, by omega, by go_num, by rw [Hpw.out.1, Hpw.out.2, Hp.out, Hha.out, Hw.out]; simpa [b2i] using hP.put0 1, by (repeat (first | (with_reducible exact Below.refl _ _) | (with_reducible assumption) | (with_reducible refine b_alloc ?_) | (with_reducible refine b_drew ?_) | (with_reducible refine b_drewN ?_) | (with_reducible refine b_set ?_ (by first | (simp; done) | (dsimp only; omega))) | (with_reducible refine b_call ?_ (by assumption))))⟩
                      case measure => simp [intOf]; omega
                    · rw [hch] at p3
                      simp only [wanted, hte', hch, if_true] at hc2
                      rw [hha] at hc2
                      simp at hc2
                      clear hte hte' hch hv hha
                      go_wp2_with fail
                      go_roundw
                      case rel => exact ⟨k + 1, by omega, by go_num, by rw [Hpw.out.1, Hpw.out.2, Hp.out, Hha.out, Hw.out]; simpa [b2i] using hP.put0 1, by (repeat (first | (with_reducible exact Below.refl _ _) | (with_reducible assumption) | (with_reducible refine b_alloc ?_) | (with_reducible refine b_drew ?_) | (with_reducible refine b_drewN ?_) | (with_reducible refine b_set ?_ (by first | (simp; done) | (dsimp only; omega))) | (with_reducible refine b_call ?_ (by assumption))))⟩
                      case measure => simp [intOf]; omega
                  · rw [hte] at x0; (try rw [hte] at x0s)
                    simp [wanted, hte] at hc2
                    clear hte hv hha
                    go_wp2_with fail
                    go_roundw
                    case rel => exact ⟨k + 1, by omega, by go_num, by rw [Hpw.out.1, Hpw.out.2, Hp.out, Hha.out, Hw.out]; simpa [b2i] using hP.put0 1, by (repeat (first | (with_reducible exact Below.refl _ _) | (with_reducible assumption) | (with_reducible refine b_alloc ?_) | (with_reducible refine b_drew ?_) | (with_reducible refine b_drewN ?_) | (with_reducible refine b_set ?_ (by first | (simp; done) | (dsimp only; omega))) | (with_reducible refine b_call ?_ (by assumption))))⟩
                    case measure => simp [intOf]; omega
                  · rw [hte] at x0; (try rw [hte] at x0s)
                    simp [wanted, hte] at hc2
                    clear hte hv hha
                    go_wp2_with fail
                    go_roundw
                    case rel => exact ⟨k + 1, by omega, by go_num, by rw [Hpw.out.1, Hpw.out.2, Hp.out, Hha.out, Hw.out]; simpa [b2i] using hP.put0 1, by (repeat (first | (with_reducible exact Below.refl _ _) | (with_reducible assumption) | (with_reducible refine b_alloc ?_) | (with_reducible refine b_drew ?_) | (with_reducible refine b_drewN ?_) | (with_reducible refine b_set ?_ (by first | (simp; done) | (dsimp only; omega))) | (with_reducible refine b_call ?_ (by assumption))))⟩
                    case measure => simp [intOf]; omega
                · have hk1' : (hs.length : Int) ≤ k + 1 := by omega
                  clear hha
                  go_wp2_with fail
                  go_roundw
                  case rel => exact ⟨k + 1, by omega, by go_num, by rw [Hpw.out.1, Hpw.out.2, Hp.out, Hha.out, Hw.out]; simpa [b2i] using hP.put0 1, by (repeat (first | (with_reducible exact Below.refl _ _) | (with_reducible assumption) | (with_reducible refine b_alloc ?_) | (with_reducible refine b_drew ?_) | (with_reducible refine b_drewN ?_) | (with_reducible refine b_set ?_ (by first | (simp; done) | (dsimp only; omega))) | (with_reducible refine b_call ?_ (by assumption))))⟩
                  case measure => simp [intOf]; omega
            · rw [hha] at hc1
              have Hha := Lib.hid hha
              cases hp : x.power
              · rw [hp] at x2
                have Hp := Lib.hid hp
                clear hp
                by_cases hk1 : k + 1 < hs.length
                · have hv := Hnx.out hk1
                  have hc2 := HAq.out wr hB (k + 1) _ hv
                  rw [Addr.add_succ'] at hc2
                  have hk1' : ¬ (hs.length : Int) ≤ k + 1 := by omega
                  have hk2 : ((k : Int) + 1) < hs.length := by omega
                  rcases f2 with hte | hte | hte
                  · rw [hte] at x0; (try rw [hte] at x0s)
                    have hte' : x.team = -1 := hte
                    cases hch : m.change
                    · rw [hch] at p3
                      simp only [wanted, hte', hch, if_true] at hc2
                      rw [hha] at hc2
                      simp at hc2
                      clear hte hte' hch hv hha
                      go_wp2_with fail
                      go_roundw
                      case rel => exact ⟨k + 1, by omega, by go_num, by rw [Hpw.out.1, Hpw.out.2, Hp.out]; simpa using hP, hB⟩
                      case measure => simp [intOf]; omega
                    · rw [hch] at p3
                      simp only [wanted, hte', hch, if_true] at hc2
                      rw [hha] at hc2
                      simp at hc2
                      clear hte hte' hch hv hha
                      go_wp2_with fail
                      go_roundw
                      case rel => exact ⟨k + 1, by omega, by go_num, by rw [Hpw.out.1, Hpw.out.2, Hp.out]; simpa using hP, hB⟩
                      case measure => simp [intOf]; omega
                  · rw [hte] at x0; (try rw [hte] at x0s)
                    simp [wanted, hte] at hc2
                    clear hte hv hha
                    go_wp2_with fail
                    go_roundw
                    case rel => exact ⟨k + 1, by omega, by go_num, by rw [Hpw.out.1, Hpw.out.2, Hp.out]; simpa using hP, hB⟩
                    case measure => simp [intOf]; omega
                  · rw [hte] at x0; (try rw [hte] at x0s)
                    simp [wanted, hte] at hc2
                    clear hte hv hha
                    go_wp2_with fail
                    go_roundw
                    case rel => exact ⟨k + 1, by omega, by go_num, by rw [Hpw.out.1, Hpw.out.2, Hp.out]; simpa using hP, hB⟩
                    case measure => simp [intOf]; omega
                · have hk1' : (hs.length : Int) ≤ k + 1 := by omega
                  clear hha
                  go_wp2_with fail
                  go_roundw
                  case rel => exact ⟨k + 1, by omega, by go_num, by rw [Hpw.out.1, Hpw.out.2, Hp.out]; simpa using hP, hB⟩
                  case measure => simp [intOf]; omega
              · rw [hp] at x2
                obtain ⟨g1, g2, g3⟩ := Hf5.out hp
                rw [g1] at p4
                have hw1 : S.w1 = false := by simpa [St.gone, hha] using g3
                rw [hw1] at w1'
                simp only [b2i] at w1'
                simp at w1'
                have hke : ¬ m.ends ≤ (k : Int) := by have := Hends'.out; omega
                have Hp := Lib.hid hp
                have Hw := Lib.hid hw1
                have hc1s := (hcs 1).trans hc1
                have hps : ∀ o, (wr.setCell ⟨wc.heap.size, 1, none⟩ (.int .i64 1)).cell? ⟨w.heap.size, o, none⟩ = wr.cell? ⟨w.heap.size, o, none⟩ := fun o => World.cell?_setCell_far _ _ _ _ (Nat.ne_of_gt (Nat.lt_trans hzm hzq1))
                have x0s : (wr.setCell ⟨wc.heap.size, 1, none⟩ (.int .i64 1)).cell? (ad.add (k * 3)) = wr.cell? (ad.add (k * 3)) := World.cell?_setCell_far _ _ _ _ (by rw [bl_add]; show wc.heap.size ≠ ad.block; omega)
                rw [x0] at x0s
                clear hp g1 g2 g3 hw1
                by_cases hk1 : k + 1 < hs.length
                · have hv := Hnx.out hk1
                  have hc2 := HAq.out wr hB (k + 1) _ hv
                  rw [Addr.add_succ'] at hc2
                  have hk1' : ¬ (hs.length : Int) ≤ k + 1 := by omega
                  have hk2 : ((k : Int) + 1) < hs.length := by omega
                  rcases f2 with hte | hte | hte
                  · rw [hte] at x0; (try rw [hte] at x0s)
                    have hte' : x.team = -1 := hte
                    cases hch : m.change
                    · rw [hch] at p3
                      simp only [wanted, hte', hch, if_true] at hc2
                      rw [hha] at hc2
                      simp at hc2
                      clear hte hte' hch hv hha
                      go_wp2_with fail
                      go_roundw
                      case rel => exact ⟨k + 1, by omega, by go_num, by rw [Hpw.out.1, Hpw.out.2, Hp.out, Hha.out, Hw.out]; simpa [b2i] using hP.put1 1, by (repeat (first | (with_reducible exact Below.refl _ _) | (with_reducible assumption) | (with_reducible refine b_alloc ?_) | (with_reducible refine b_drew ?_) | (with_reducible refine b_drewN ?_) | (with_reducible refine b_set ?_ (by first | (simp; done) | (dsimp only; omega))) | (with_reducible refine b_call ?_ (by assumption))))⟩
                      case measure => simp [intOf]; omega
                    · rw [hch] at p3
                      simp only [wanted, hte', hch, if_true] at hc2
                      rw [hha] at hc2
                      simp at hc2
                      clear hte hte' hch hv hha
                      go_wp2_with fail
                      go_roundw
                      case rel => exact ⟨k + 1, by omega, by go_num, by rw [Hpw.out.1, Hpw.out.2, Hp.out, Hha.out, Hw.out]; simpa [b2i] using hP.put1 1, by (repeat (first | (with_reducible exact Below.refl _ _) | (with_reducible assumption) | (with_reducible refine b_alloc ?_) | (with_reducible refine b_drew ?_) | (with_reducible refine b_drewN ?_) | (with_reducible refine b_set ?_ (by first | (simp; done) | (dsimp only; omega))) | (with_reducible refine b_call ?_ (by assumption))))⟩
                      case measure => simp [intOf]; omega
                  · rw [hte] at x0; (try rw [hte] at x0s)
                    simp [wanted, hte] at hc2
                    clear hte hv hha
                    go_wp2_with fail
                    go_roundw
                    case rel => exact ⟨k + 1, by omega, by go_num, by rw [Hpw.out.1, Hpw.out.2, Hp.out, Hha.out, Hw.out]; simpa [b2i] using hP.put1 1, by (repeat (first | (with_reducible exact Below.refl _ _) | (with_reducible assumption) | (with_reducible refine b_alloc ?_) | (with_reducible refine b_drew ?_) | (with_reducible refine b_drewN ?_) | (with_reducible refine b_set ?_ (by first | (simp; done) | (dsimp only; omega))) | (with_reducible refine b_call ?_ (by assumption))))⟩
                    case measure => simp [intOf]; omega
                  · rw [hte] at x0; (try rw [hte] at x0s)
                    simp [wanted, hte] at hc2
                    clear hte hv hha
                    go_wp2_with fail
                    go_roundw
                    case rel => exact ⟨k + 1, by omega, by go_num, by rw [Hpw.out.1, Hpw.out.2, Hp.out, Hha.out, Hw.out]; simpa [b2i] using hP.put1 1, by (repeat (first | (with_reducible exact Below.refl _ _) | (with_reducible assumption) | (with_reducible refine b_alloc ?_) | (with_reducible refine b_drew ?_) | (with_reducible refine b_drewN ?_) | (with_reducible refine b_set ?_ (by first | (simp; done) | (dsimp only; omega))) | (with_reducible refine b_call ?_ (by assumption))))⟩
                    case measure => simp [intOf]; omega
                · have hk1' : (hs.length : Int) ≤ k + 1 := by omega
                  clear hha
                  go_wp2_with fail
                  go_roundw
                  case rel => exact ⟨k + 1, by omega, by go_num, by rw [Hpw.out.1, Hpw.out.2, Hp.out, Hha.out, Hw.out]; simpa [b2i] using hP.put1 1, by (repeat (first | (with_reducible exact Below.refl _ _) | (with_reducible assumption) | (with_reducible refine b_alloc ?_) | (with_reducible refine b_drew ?_) | (with_reducible refine b_drewN ?_) | (with_reducible refine b_set ?_ (by first | (simp; done) | (dsimp only; omega))) | (with_reducible refine b_call ?_ (by assumption))))⟩
                  case measure => simp [intOf]; omega
          · obtain rfl : k = card.length := by omega
            rw [Hsn.out] at hP
            have hSr := hSq.below hB
            obtain ⟨w0, w1', wf, wz⟩ := hP.cells
            obtain ⟨s0, s1, s2, s3, s4, s5, s6, s7, s8, sf, sz⟩ := hSr.cells
            have heq : ∀ (a b : Bool) W, (Op.equalIn 10000 27 (.agg #[.bool a, .bool b]) (.agg #[.bool a, .bool b])).run Tryd.prog W = .ok true W := fun a b W => by have := eq_bools10 a b a b W; simpa using this
            cases h0 : sn.w0 <;> cases h1 : sn.w1
            all_goals
              rw [h0] at w0 s7
              rw [h1] at w1' s8
              simp [b2i] at w0 w1'
              clear h0 h1
              go_wp2_with (go_at_call 10; refine (Haw.out _ (by (repeat (first | (with_reducible exact Below.refl _ _) | (with_reducible assumption) | (with_reducible refine b_alloc ?_) | (with_reducible refine b_drew ?_) | (with_reducible refine b_drewN ?_) | (with_reducible refine b_set ?_ (by first | (simp; done) | (dsimp only; omega))) | (with_reducible refine b_call ?_ (by assumption)))))).mono ?_; rintro e w9 ⟨rfl, hb9⟩)
              go_ret
              exact ⟨rfl, by (repeat (first | (with_reducible exact Below.refl _ _) | (with_reducible assumption) | (with_reducible refine b_alloc ?_) | (with_reducible refine b_drew ?_) | (with_reducible refine b_drewN ?_) | (with_reducible refine b_set ?_ (by first | (simp; done) | (dsimp only; omega))) | (with_reducible refine b_call ?_ (by assumption))))⟩
    · have hne : ((replay m first card (-1)).2.2 != 0) = true := by simpa using hok
      have hnil : hamsOf m first card = [] := by simp [hamsOf, hok]
      rw [hnil] at hph
      generalize (replay m first card (-1)).1 = s at *
      generalize (replay m first card (-1)).2.1 = at1 at *
      generalize (replay m first card (-1)).2.2 = er at *
      have Hpr := Lib.hid hpr
      have Hph := Lib.hid hph
      clear hpr hph hok hnil hc
      go_enter Tryd.func6, Tryd.ntmps6
      go_wp2_with (first
        | (go_at_call 13; refine (Hph.out _ (by (repeat (first | (with_reducible exact Below.refl _ _) | (with_reducible assumption) | (with_reducible refine b_alloc ?_) | (with_reducible refine b_drew ?_) | (with_reducible refine b_drewN ?_) | (with_reducible refine b_set ?_ (by first | (simp; done) | (dsimp only; omega))) | (with_reducible refine b_call ?_ (by assumption)))))).mono ?_; rintro e w1 ⟨v1, rfl, hown1, hb1⟩; obtain ⟨A1, ca1, rfl, hR1, hRb1⟩ := own_rd hown1 (by simp); have hM1 : MtAt w1 w.heap.size m := (hb1.block _ (by simp)).trans (alloc_at w _); have hB1 := b_call (b_alloc (Below.refl w.heap.size w)) hb1; obtain ⟨q0, q1, q2, q3, q4, qf, qz⟩ := hM1.cells)
        | (go_at_call 11; refine (Hpr.out _ (by (repeat (first | (with_reducible exact Below.refl _ _) | (with_reducible assumption) | (with_reducible refine b_alloc ?_) | (with_reducible refine b_drew ?_) | (with_reducible refine b_drewN ?_) | (with_reducible refine b_set ?_ (by first | (simp; done) | (dsimp only; omega))) | (with_reducible refine b_call ?_ (by assumption)))))).mono ?_; rintro e w2 ⟨rfl, hb2⟩)
        | (go_at_call 10; refine (Haw.out _ (by (repeat (first | (with_reducible exact Below.refl _ _) | (with_reducible assumption) | (with_reducible refine b_alloc ?_) | (with_reducible refine b_drew ?_) | (with_reducible refine b_drewN ?_) | (with_reducible refine b_set ?_ (by first | (simp; done) | (dsimp only; omega))) | (with_reducible refine b_call ?_ (by assumption)))))).mono ?_; rintro e w3 ⟨rfl, hb3⟩))
      go_ret
      exact ⟨rfl, by (repeat (first | (with_reducible exact Below.refl _ _) | (with_reducible assumption) | (with_reducible refine b_alloc ?_) | (with_reducible refine b_drew ?_) | (with_reducible refine b_drewN ?_) | (with_reducible refine b_set ?_ (by first | (simp; done) | (dsimp only; omega))) | (with_reducible refine b_call ?_ (by assumption))))⟩
end Go.Proofs.YtenofigclkbbiaaDoor
