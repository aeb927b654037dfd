/-
  GameAlone: the points are the sums of the card, and what hangs on them: the walk.
-/
import Derived.Test.YtenofigclkbbiaaDoorAw
import Derived.Test.YtenofigclkbbiaaDoorAl
import Derived.Test.YtenofigclkbbiaaDoorEq
import Derived.Deep.DeepCutAuto
import Derived.Deep.RegionHeld3
import Derived.Deep.DrawnRows
import Derived.BigRegion
import Derived.IntWalk
import Derived.OpenShut
set_option linter.unusedVariables false
set_option linter.unusedSimpArgs false
namespace Go.Proofs.YtenofigclkbbiaaDoor
open Go.RowKit
open Game
attribute [local go_sem ↓] Go.wp_at_zero Go.wp_at_succ
/-- Two sums in a block of their own. -/
def SuAt (w : World) (g : Nat) (a b : Int) : Prop := w.heap[g]? = some (.cells #[.int .i64 a, .int .i64 b] 26 (0, 0))
theorem SuAt.cells {w : World} {g : Nat} {a b : Int} (h : SuAt w g a b) : w.cell? ⟨g, 0, none⟩ = some (.int .i64 a) ∧ w.cell? ⟨g, 1, none⟩ = some (.int .i64 b) ∧ (∀ o, w.frozen? ⟨g, o, none⟩ = false) ∧ g < w.heap.size := by
  have hl := (Array.getElem?_eq_some_iff.1 h).1
  unfold SuAt at h
  exact ⟨by simp [World.cell?, h], by simp [World.cell?, h], fun o => by simp [World.frozen?, h], hl⟩
theorem SuAt.put0 {w : World} {g : Nat} {a b : Int} (h : SuAt w g a b) (c : Int) : SuAt (w.setCell ⟨g, 0, none⟩ (.int .i64 c)) g c b := by
  unfold SuAt at h ⊢; simp [World.setCell, Array.getElem?_modify, h]
theorem SuAt.put1 {w : World} {g : Nat} {a b : Int} (h : SuAt w g a b) (c : Int) : SuAt (w.setCell ⟨g, 1, none⟩ (.int .i64 c)) g a c := by
  unfold SuAt at h ⊢; simp [World.setCell, Array.getElem?_modify, h]
theorem su_add (a : Addr) (n : Nat) : (a.add n).block = a.block := by unfold Addr.add; split <;> rfl
theorem alone_one {b : Nat} {w0 W : World} (h1 : b < w0.heap.size) (h : Below w0.heap.size w0 W) : (∀ o, W.cell? ⟨b, o, none⟩ = w0.cell? ⟨b, o, none⟩) ∧ Below w0.heap.size w0 W :=
  ⟨fun o => h.cell (p := ⟨b, o, none⟩) h1, h⟩
set_option maxHeartbeats 8000000 in
set_option maxRecDepth 100000 in
theorem GameAlone_walk (m : Mt) (first : Int) (A : Option Addr) (cap : Nat) (card : List Ln) (nn : Int) (w : World) (hc : Card w A card) (hcap : card.length ≤ cap) (hwf : (Lit.int .u8 nn).wf = true) (htab : Tab w) :
    Calls Tryd.prog 4 #[mval m, .int .i64 first, .slice A card.length cap, .int .u8 nn] w fun e w' => e = .returned (.bool true) ∧ Below w.heap.size w w' := by
  have Haw := Lib.hid (fun (W : World) (hW : Below w.heap.size w W) => awake_any W (htab.below hW (Nat.le_refl _)))
  have hln := hc.1
  obtain ⟨hn0, hn1⟩ := bounds_u8 hwf
  have hpr := (fun (W : World) (hW : Below w.heap.size w W) => pReplay_any m first A cap card (-1) W (hc.in_.below hW (Nat.le_refl _) |>.to hW.size))
  have hcB := hc.in_
  by_cases h60 : 60 < card.length
  · clear hpr
    go_enter Tryd.func4, Tryd.ntmps4
    go_wp2_with (go_at_call 10; refine (Haw.out _ (by (repeat (first | (with_reducible exact Below.refl _ _) | (with_reducible assumption) | (with_reducible refine b_alloc ?_) | (with_reducible refine b_drew ?_) | (with_reducible refine b_drewN ?_) | (with_reducible refine b_set ?_ (by first | (simp; done) | (dsimp only; omega))) | (with_reducible refine b_call ?_ (by assumption)))))).mono ?_; rintro e w1 ⟨rfl, hb1⟩)
    go_ret
    exact ⟨rfl, by (repeat (first | (with_reducible exact Below.refl _ _) | (with_reducible assumption) | (with_reducible refine b_alloc ?_) | (with_reducible refine b_drew ?_) | (with_reducible refine b_drewN ?_) | (with_reducible refine b_set ?_ (by first | (simp; done) | (dsimp only; omega))) | (with_reducible refine b_call ?_ (by assumption))))⟩
  · by_cases hok : (replay m first card (-1)).2.2 = 0
    · have hT := told_of hok
      have halone := hT.alone
      have htk := replay_take hok (nn % ((card.length : Int) + 1)).toNat
      obtain ⟨hlen, hline, hinv, hres, hham, hlast, hover, hstart, hmost, hends, hfirst⟩ := hT
      rw [hres] at hpr
      have hpk := (fun (W : World) (hW : Below w.heap.size w W) => pReplay_any m first A cap (card.take (nn % ((card.length : Int) + 1)).toNat) (-1) W ((hc.take _).in_.below hW (Nat.le_refl _) |>.to hW.size))
      rw [htk] at hpk
      have hm0 : 0 ≤ nn % ((card.length : Int) + 1) := Int.emod_nonneg _ (by omega)
      have hm1 : nn % ((card.length : Int) + 1) < (card.length : Int) + 1 := Int.emod_lt_of_pos _ (by omega)
      have hmt : Int.tmod nn ((card.length : Int) + 1) = nn % ((card.length : Int) + 1) := Int.tmod_eq_emod_of_nonneg hn0
      obtain ⟨k2, hk2⟩ : ∃ k2 : Nat, (k2 : Int) = nn % ((card.length : Int) + 1) := ⟨(nn % ((card.length : Int) + 1)).toNat, by omega⟩
      rw [← hk2] at hmt hm0 hm1 hpk
      simp only [Int.toNat_natCast] at hpk
      have hk2l : k2 ≤ card.length := by omega
      rw [List.length_take, Nat.min_eq_left hk2l] at hpk
      generalize fold m (St.begun first) (card.take k2) = tk at hpk
      have Hpk := Lib.hid hpk
      have Hmt := Lib.hid hmt
      have Hline := Lib.hid hline
      have Hinv := Lib.hid hinv
      have Halone := Lib.hid halone
      have Hstart := Lib.hid hstart
      have hnI := hinv card.length (Nat.le_refl _)
      have hnA := halone card.length (Nat.le_refl _)
      have hne := hnI.ends
      clear hline hinv hham hlast hover hok hres hc htk hpk hmt halone hk2 hstart hnI
      generalize hsn : stAt m first card card.length = sn at *
      have Hsn := Lib.hid hsn
      have HnA := Lib.hid hnA
      have Hne := Lib.hid hne
      have Hpr := Lib.hid hpr
      clear hsn hnA hpr hne
      go_enter Tryd.func4, Tryd.ntmps4
      go_upto_region 6 with (go_at_call 11; refine (Hpr.out _ (by (repeat (first | (with_reducible exact Below.refl _ _) | (with_reducible assumption) | (with_reducible refine b_alloc ?_) | (with_reducible refine b_drew ?_) | (with_reducible refine b_drewN ?_) | (with_reducible refine b_set ?_ (by first | (simp; done) | (dsimp only; omega))) | (with_reducible refine b_call ?_ (by assumption)))))).mono ?_; rintro e w1 ⟨rfl, hb1⟩)
      have hM1 : MtAt w1 w.heap.size m := (hb1.block _ (by simp)).trans (alloc_at w _)
      have hB1 := b_call (b_alloc (Below.refl w.heap.size w)) hb1
      have hz1 : w.heap.size < w1.heap.size := hM1.cells.2.2.2.2.2.2
      obtain ⟨wq, hwq⟩ : ∃ wq, wq = w1.alloc (.cells #[.int .i64 sn.p0, .int .i64 sn.p1, .int .i64 sn.ends, .int .i64 sn.hammer, .int .i64 sn.winner, .bool sn.over, .bool sn.extra, .bool sn.w0, .bool sn.w1] 29) := ⟨_, rfl⟩
      have hSq : StAt wq w1.heap.size sn := by rw [hwq]; exact alloc_at w1 _
      have hMq : MtAt wq w.heap.size m := by rw [hwq]; exact hM1.kept (alloc_old _ _ hz1)
      have hBq : Below w.heap.size w wq := by rw [hwq]; exact b_alloc hB1
      have hzq : w1.heap.size < wq.heap.size := by rw [hwq]; simp
      rw [← hwq]
      clear hwq hM1 hB1 hb1
      go_wp2_with fail
      go_loopw [13, 14] (fun o i wr => ∃ k : Nat, k ≤ card.length ∧ i = .int .i64 k ∧ o = .bool (stAt m first card k).over ∧ SuAt wr wq.heap.size (stAt m first card k).p0 (stAt m first card k).p1 ∧ Below wq.heap.size wq wr)
        (fun _ i _ => card.length - (intOf i).toNat)
      case atStart => exact ⟨0, by omega, rfl, by rw [Hstart.out]; rfl, by rw [Hstart.out]; exact alloc_at _ _, b_alloc (Below.refl _ _)⟩
      case round =>
        obtain ⟨k, hk, rfl, rfl, hU, hB⟩ := hrel
        have hMr := hMq.below hB
        have hBr := b_call hBq hB
        by_cases hlt : k < card.length
        · have hadw := (hcB.below hBr (Nat.le_refl _)).2 (by omega)
          obtain ⟨ad, x, rfl, hadb, hx, x0, x1, x2⟩ := ((hcB.below hBr (Nat.le_refl _)).to hBr.size).at_ hlt
          have hadw : ad.block < w.heap.size := by
            obtain ⟨a', e, hb', _⟩ := hadw
            cases e; exact hb'
          obtain ⟨hfit, hnext⟩ := Hline.out k x hx
          obtain ⟨f1, f2, f3, f4, f5⟩ := fits_parts hfit
          have hI := Hinv.out k hk
          have hA' := (Halone.out (k + 1) (by omega)).over
          have hsum := behind_sums (m := m) (s := stAt m first card k) (x := x)
          rw [← hnext] at hsum
          rw [f1]
          have hp0 := hI.p0
          have hp1 := hI.p1
          generalize stAt m first card k = S at *
          obtain ⟨T, hT⟩ : ∃ T, T = stAt m first card (k + 1) := ⟨_, rfl⟩
          rw [← hT] at hA' hsum
          have HT := Lib.hid hT
          have Hov := Lib.hid hA'
          have hkl : (k : Int) < card.length := by omega
          have hk0 : (0 : Int) ≤ k := by omega
          have hpts : x.team ≠ -1 → 1 ≤ x.points ∧ x.points ≤ 8 := fun h => by have := f4 h; omega
          clear hT hA' hfit hnext hx f3 f4 f5 hI
          rcases f2 with hte | hte | hte
          · rw [hte] at x0
            rw [hte] at hsum
            simp at hsum
            obtain ⟨e0, e1⟩ := hsum
            rw [← e0, ← e1] at hU
            obtain ⟨p0, p1, p2, p3, p4, pf, pz⟩ := hMr.cells
            go_upto_region 14 with fail
            obtain ⟨u0, u1, uf, uz⟩ := hU.cells
            have Ht0 := Lib.hid e0
            have Ht1 := Lib.hid e1
            clear e0 e1
            by_cases he : m.ends ≤ (k : Int) + 1
            · by_cases hq : T.p0 = T.p1
              · have bq : (T.p0 != T.p1) = false := by simp [hq]
                have ho : T.over = false := by rw [Hov.out]; simp [hq]
                have Ho := Lib.hid ho
                clear ho hq
                go_wp2_with fail
                go_roundw
                case rel => exact ⟨k + 1, by omega, by go_num, by rw [← HT.out, Ho.out], by rw [← HT.out]; exact hU, hB⟩
                case measure => simp [intOf]; omega
              · have bq : (T.p0 != T.p1) = true := by simp [hq]
                have ho : T.over = true := by rw [Hov.out]; exact decide_eq_true ⟨by omega, hq⟩
                have Ho := Lib.hid ho
                clear ho hq
                go_wp2_with fail
                go_roundw
                case rel => exact ⟨k + 1, by omega, by go_num, by rw [← HT.out, Ho.out], by rw [← HT.out]; exact hU, hB⟩
                case measure => simp [intOf]; omega
            · have ho : T.over = false := by rw [Hov.out]; exact decide_eq_false (fun h => he (by have := h.1; omega))
              have Ho := Lib.hid ho
              clear ho
              go_wp2_with fail
              go_roundw
              case rel => exact ⟨k + 1, by omega, by go_num, by rw [← HT.out, Ho.out], by rw [← HT.out]; exact hU, hB⟩
              case measure => simp [intOf]; omega
          · rw [hte] at x0
            rw [hte] at hsum
            simp at hsum
            obtain ⟨e0, e1⟩ := hsum
            have hpt := hpts (by omega)
            have hwrap : IntKind.i64.wrap (S.p0 + x.points) = S.p0 + x.points := IntWalk.i64_in _ (by omega)
            obtain ⟨u0, u1, uf, uz⟩ := hU.cells
            clear hpts hte
            go_upto_region 13 with fail
            go_cut [] (fun wx => SuAt wx wq.heap.size T.p0 T.p1 ∧ Below wq.heap.size wq wx)
            case first =>
              go_region
              all_goals (go_wp2_with fail; go_meet)
              all_goals exact ⟨by rw [e0, e1]; exact hU.put0 _, by (repeat (first | (with_reducible exact Below.refl _ _) | (with_reducible assumption) | (with_reducible refine b_alloc ?_) | (with_reducible refine b_drew ?_) | (with_reducible refine b_drewN ?_) | (with_reducible refine b_set ?_ (by first | (simp; done) | (dsimp only; omega))) | (with_reducible refine b_call ?_ (by assumption))))⟩
            case rest =>
              obtain ⟨hU2, hB2⟩ := hcut
              clear hU hB hMr hBr u0 u1 uf uz x0 x1 x2 hwrap
              have hMr := hMq.below hB2
              have hU := hU2
              have hB := hB2
              clear hU2 hB2
              obtain ⟨p0, p1, p2, p3, p4, pf, pz⟩ := hMr.cells
              obtain ⟨u0, u1, uf, uz⟩ := hU.cells
              have Ht0 := Lib.hid e0
              have Ht1 := Lib.hid e1
              clear e0 e1
              by_cases he : m.ends ≤ (k : Int) + 1
              · by_cases hq : T.p0 = T.p1
                · have bq : (T.p0 != T.p1) = false := by simp [hq]
                  have ho : T.over = false := by rw [Hov.out]; simp [hq]
                  have Ho := Lib.hid ho
                  clear ho hq
                  go_wp2_with fail
                  go_roundw
                  case rel => exact ⟨k + 1, by omega, by go_num, by rw [← HT.out, Ho.out], by rw [← HT.out]; exact hU, hB⟩
                  case measure => simp [intOf]; omega
                · have bq : (T.p0 != T.p1) = true := by simp [hq]
                  have ho : T.over = true := by rw [Hov.out]; exact decide_eq_true ⟨by omega, hq⟩
                  have Ho := Lib.hid ho
                  clear ho hq
                  go_wp2_with fail
                  go_roundw
                  case rel => exact ⟨k + 1, by omega, by go_num, by rw [← HT.out, Ho.out], by rw [← HT.out]; exact hU, hB⟩
                  case measure => simp [intOf]; omega
              · have ho : T.over = false := by rw [Hov.out]; exact decide_eq_false (fun h => he (by have := h.1; omega))
                have Ho := Lib.hid ho
                clear ho
                go_wp2_with fail
                go_roundw
                case rel => exact ⟨k + 1, by omega, by go_num, by rw [← HT.out, Ho.out], by rw [← HT.out]; exact hU, hB⟩
                case measure => simp [intOf]; omega
          · rw [hte] at x0
            rw [hte] at hsum
            simp at hsum
            obtain ⟨e0, e1⟩ := hsum
            have hpt := hpts (by omega)
            have hwrap : IntKind.i64.wrap (S.p1 + x.points) = S.p1 + x.points := IntWalk.i64_in _ (by omega)
            obtain ⟨u0, u1, uf, uz⟩ := hU.cells
            clear hpts hte
            go_upto_region 13 with fail
            go_cut [] (fun wx => SuAt wx wq.heap.size T.p0 T.p1 ∧ Below wq.heap.size wq wx)
            case first =>
              go_region
              all_goals (go_wp2_with fail; go_meet)
              all_goals exact ⟨by rw [e0, e1]; exact hU.put1 _, by (repeat (first | (with_reducible exact Below.refl _ _) | (with_reducible assumption) | (with_reducible refine b_alloc ?_) | (with_reducible refine b_drew ?_) | (with_reducible refine b_drewN ?_) | (with_reducible refine b_set ?_ (by first | (simp; done) | (dsimp only; omega))) | (with_reducible refine b_call ?_ (by assumption))))⟩
            case rest =>
              obtain ⟨hU2, hB2⟩ := hcut
              clear hU hB hMr hBr u0 u1 uf uz x0 x1 x2 hwrap
              have hMr := hMq.below hB2
              have hU := hU2
              have hB := hB2
              clear hU2 hB2
              obtain ⟨p0, p1, p2, p3, p4, pf, pz⟩ := hMr.cells
              obtain ⟨u0, u1, uf, uz⟩ := hU.cells
              have Ht0 := Lib.hid e0
              have Ht1 := Lib.hid e1
              clear e0 e1
              by_cases he : m.ends ≤ (k : Int) + 1
              · by_cases hq : T.p0 = T.p1
                · have bq : (T.p0 != T.p1) = false := by simp [hq]
                  have ho : T.over = false := by rw [Hov.out]; simp [hq]
                  have Ho := Lib.hid ho
                  clear ho hq
                  go_wp2_with fail
                  go_roundw
                  case rel => exact ⟨k + 1, by omega, by go_num, by rw [← HT.out, Ho.out], by rw [← HT.out]; exact hU, hB⟩
                  case measure => simp [intOf]; omega
                · have bq : (T.p0 != T.p1) = true := by simp [hq]
                  have ho : T.over = true := by rw [Hov.out]; exact decide_eq_true ⟨by omega, hq⟩
                  have Ho := Lib.hid ho
                  clear ho hq
                  go_wp2_with fail
                  go_roundw
                  case rel => exact ⟨k + 1, by omega, by go_num, by rw [← HT.out, Ho.out], by rw [← HT.out]; exact hU, hB⟩
                  case measure => simp [intOf]; omega
              · have ho : T.over = false := by rw [Hov.out]; exact decide_eq_false (fun h => he (by have := h.1; omega))
                have Ho := Lib.hid ho
                clear ho
                go_wp2_with fail
                go_roundw
                case rel => exact ⟨k + 1, by omega, by go_num, by rw [← HT.out, Ho.out], by rw [← HT.out]; exact hU, hB⟩
                case measure => simp [intOf]; omega
        · obtain rfl : k = card.length := by omega
          have hSr := hSq.below hB
          rw [Hsn.out] at hU
          rw [Hsn.out]
          obtain ⟨a1, a2, a3, a4⟩ := HnA.out
          have hne := Hne.out
          have heq : ∀ (a b : Int) W, (Op.equalIn 10000 26 (.agg #[.int .i64 a, .int .i64 b]) (.agg #[.int .i64 a, .int .i64 b])).run Tryd.prog W = .ok true W := fun a b W => by have := eq_ints10 a b a b W; simpa using this
          obtain ⟨u0, u1, uf, uz⟩ := hU.cells
          obtain ⟨s0, s1, s2, s3, s4, s5, s6, s7, s8, sf, sz⟩ := hSr.cells
          obtain ⟨q0, q1, q2, q3, q4, qf, qz⟩ := hMr.cells
          have hk2c : (k2 : Int) ≤ cap := by omega
          have hmt := Hmt.out
          rw [hne] at s2
          clear hne hSr
          cases hov : sn.over
          · rw [hov] at s5 a2 a3 a4
            simp at a2 a3
            rw [a2] at s4
            clear a1 a2 hov
            by_cases he : m.ends ≤ (card.length : Int)
            · rw [decide_eq_true he] at a3
              rw [a3] at s6
              have he' : (m.ends : Int) ≤ card.length := he
              clear a3
              have Hpk' := Lib.hid (fun (W : World) (hW : Below wr.heap.size wr W) => Hpk.out W (b_call hBr hW))
              have hkeep := Lib.hid (fun (W : World) (h : Below wr.heap.size wr W) => alone_one (b := w.heap.size) qz h)
              go_upto_region 23 with fail
              go_cut [17, 18, 19] (fun s17 s18 s19 wx => s19 = .int .i64 0 ∧ Below wr.heap.size wr wx)
              case first =>
                go_region_held3 (fun W => (∀ o, W.cell? ⟨w.heap.size, o, none⟩ = wr.cell? ⟨w.heap.size, o, none⟩) ∧ Below wr.heap.size wr W) (exact hkeep.out _ (by (repeat (first | (with_reducible exact Below.refl _ _) | (with_reducible assumption) | (with_reducible refine b_alloc ?_) | (with_reducible refine b_drew ?_) | (with_reducible refine b_drewN ?_) | (with_reducible refine b_set ?_ (by first | (simp; done) | (dsimp only; omega))) | (with_reducible refine b_call ?_ (by assumption))))))
                  (first | (go_at_call 11; refine (Hpk'.out _ (by (repeat (first | (with_reducible exact Below.refl _ _) | (with_reducible assumption) | (with_reducible refine b_alloc ?_) | (with_reducible refine b_drew ?_) | (with_reducible refine b_drewN ?_) | (with_reducible refine b_set ?_ (by first | (simp; done) | (dsimp only; omega))) | (with_reducible refine b_call ?_ (by assumption)))))).mono ?_; rintro e w5 ⟨rfl, hb5⟩; obtain ⟨hc5, hf5⟩ := bcell hb5; have hz6 : wr.heap.size ≤ w5.heap.size := (by have := hb5.size; simp at this; omega)))
                all_goals (go_wp2_with fail; go_meet)
                all_goals exact ⟨rfl, (‹_ ∧ Below wr.heap.size wr _›).2⟩
              case rest =>
                obtain ⟨rfl, hbx⟩ := hcut
                have hBf := b_call hBr hbx
                go_wp2_with (go_at_call 10; refine (Haw.out _ (by (repeat (first | (with_reducible exact Below.refl _ _) | (with_reducible assumption) | (with_reducible refine b_alloc ?_) | (with_reducible refine b_drew ?_) | (with_reducible refine b_drewN ?_) | (with_reducible refine b_set ?_ (by first | (simp; done) | (dsimp only; omega))) | (with_reducible refine b_call ?_ (by assumption)))))).mono ?_; rintro e w9 ⟨rfl, hb9⟩)
                go_ret
                exact ⟨rfl, by (repeat (first | (with_reducible exact Below.refl _ _) | (with_reducible assumption) | (with_reducible refine b_alloc ?_) | (with_reducible refine b_drew ?_) | (with_reducible refine b_drewN ?_) | (with_reducible refine b_set ?_ (by first | (simp; done) | (dsimp only; omega))) | (with_reducible refine b_call ?_ (by assumption))))⟩
            · rw [decide_eq_false he] at a3
              rw [a3] at s6
              clear a3
              have Hpk' := Lib.hid (fun (W : World) (hW : Below wr.heap.size wr W) => Hpk.out W (b_call hBr hW))
              have hkeep := Lib.hid (fun (W : World) (h : Below wr.heap.size wr W) => alone_one (b := w.heap.size) qz h)
              go_upto_region 23 with fail
              go_cut [17, 18, 19] (fun s17 s18 s19 wx => s19 = .int .i64 0 ∧ Below wr.heap.size wr wx)
              case first =>
                go_region_held3 (fun W => (∀ o, W.cell? ⟨w.heap.size, o, none⟩ = wr.cell? ⟨w.heap.size, o, none⟩) ∧ Below wr.heap.size wr W) (exact hkeep.out _ (by (repeat (first | (with_reducible exact Below.refl _ _) | (with_reducible assumption) | (with_reducible refine b_alloc ?_) | (with_reducible refine b_drew ?_) | (with_reducible refine b_drewN ?_) | (with_reducible refine b_set ?_ (by first | (simp; done) | (dsimp only; omega))) | (with_reducible refine b_call ?_ (by assumption))))))
                  (first | (go_at_call 11; refine (Hpk'.out _ (by (repeat (first | (with_reducible exact Below.refl _ _) | (with_reducible assumption) | (with_reducible refine b_alloc ?_) | (with_reducible refine b_drew ?_) | (with_reducible refine b_drewN ?_) | (with_reducible refine b_set ?_ (by first | (simp; done) | (dsimp only; omega))) | (with_reducible refine b_call ?_ (by assumption)))))).mono ?_; rintro e w5 ⟨rfl, hb5⟩; obtain ⟨hc5, hf5⟩ := bcell hb5; have hz6 : wr.heap.size ≤ w5.heap.size := (by have := hb5.size; simp at this; omega)))
                all_goals (go_wp2_with fail; go_meet)
                all_goals exact ⟨rfl, (‹_ ∧ Below wr.heap.size wr _›).2⟩
              case rest =>
                obtain ⟨rfl, hbx⟩ := hcut
                have hBf := b_call hBr hbx
                go_wp2_with (go_at_call 10; refine (Haw.out _ (by (repeat (first | (with_reducible exact Below.refl _ _) | (with_reducible assumption) | (with_reducible refine b_alloc ?_) | (with_reducible refine b_drew ?_) | (with_reducible refine b_drewN ?_) | (with_reducible refine b_set ?_ (by first | (simp; done) | (dsimp only; omega))) | (with_reducible refine b_call ?_ (by assumption)))))).mono ?_; rintro e w9 ⟨rfl, hb9⟩)
                go_ret
                exact ⟨rfl, by (repeat (first | (with_reducible exact Below.refl _ _) | (with_reducible assumption) | (with_reducible refine b_alloc ?_) | (with_reducible refine b_drew ?_) | (with_reducible refine b_drewN ?_) | (with_reducible refine b_set ?_ (by first | (simp; done) | (dsimp only; omega))) | (with_reducible refine b_call ?_ (by assumption))))⟩
          · rw [hov] at s5 a1 a2 a3 a4
            obtain ⟨he, hpq⟩ := of_decide_eq_true a1.symm
            simp at a2 a3
            rw [a3] at s6
            clear a1 a3 hov
            by_cases hlt2 : sn.p1 < sn.p0
            · rw [if_pos hlt2] at a2
              rw [a2] at s4
              clear a2
              have Hpk' := Lib.hid (fun (W : World) (hW : Below wr.heap.size wr W) => Hpk.out W (b_call hBr hW))
              have hkeep := Lib.hid (fun (W : World) (h : Below wr.heap.size wr W) => alone_one (b := w.heap.size) qz h)
              go_upto_region 23 with fail
              go_cut [17, 18, 19] (fun s17 s18 s19 wx => s19 = .int .i64 0 ∧ Below wr.heap.size wr wx)
              case first =>
                go_region_held3 (fun W => (∀ o, W.cell? ⟨w.heap.size, o, none⟩ = wr.cell? ⟨w.heap.size, o, none⟩) ∧ Below wr.heap.size wr W) (exact hkeep.out _ (by (repeat (first | (with_reducible exact Below.refl _ _) | (with_reducible assumption) | (with_reducible refine b_alloc ?_) | (with_reducible refine b_drew ?_) | (with_reducible refine b_drewN ?_) | (with_reducible refine b_set ?_ (by first | (simp; done) | (dsimp only; omega))) | (with_reducible refine b_call ?_ (by assumption))))))
                  (first | (go_at_call 11; refine (Hpk'.out _ (by (repeat (first | (with_reducible exact Below.refl _ _) | (with_reducible assumption) | (with_reducible refine b_alloc ?_) | (with_reducible refine b_drew ?_) | (with_reducible refine b_drewN ?_) | (with_reducible refine b_set ?_ (by first | (simp; done) | (dsimp only; omega))) | (with_reducible refine b_call ?_ (by assumption)))))).mono ?_; rintro e w5 ⟨rfl, hb5⟩; obtain ⟨hc5, hf5⟩ := bcell hb5; have hz6 : wr.heap.size ≤ w5.heap.size := (by have := hb5.size; simp at this; omega)))
                all_goals (go_wp2_with fail; go_meet)
                all_goals exact ⟨rfl, (‹_ ∧ Below wr.heap.size wr _›).2⟩
              case rest =>
                obtain ⟨rfl, hbx⟩ := hcut
                have hBf := b_call hBr hbx
                go_wp2_with (go_at_call 10; refine (Haw.out _ (by (repeat (first | (with_reducible exact Below.refl _ _) | (with_reducible assumption) | (with_reducible refine b_alloc ?_) | (with_reducible refine b_drew ?_) | (with_reducible refine b_drewN ?_) | (with_reducible refine b_set ?_ (by first | (simp; done) | (dsimp only; omega))) | (with_reducible refine b_call ?_ (by assumption)))))).mono ?_; rintro e w9 ⟨rfl, hb9⟩)
                go_ret
                exact ⟨rfl, by (repeat (first | (with_reducible exact Below.refl _ _) | (with_reducible assumption) | (with_reducible refine b_alloc ?_) | (with_reducible refine b_drew ?_) | (with_reducible refine b_drewN ?_) | (with_reducible refine b_set ?_ (by first | (simp; done) | (dsimp only; omega))) | (with_reducible refine b_call ?_ (by assumption))))⟩
            · rw [if_neg hlt2] at a2
              rw [a2] at s4
              clear a2
              have Hpk' := Lib.hid (fun (W : World) (hW : Below wr.heap.size wr W) => Hpk.out W (b_call hBr hW))
              have hkeep := Lib.hid (fun (W : World) (h : Below wr.heap.size wr W) => alone_one (b := w.heap.size) qz h)
              go_upto_region 23 with fail
              go_cut [17, 18, 19] (fun s17 s18 s19 wx => s19 = .int .i64 0 ∧ Below wr.heap.size wr wx)
              case first =>
                go_region_held3 (fun W => (∀ o, W.cell? ⟨w.heap.size, o, none⟩ = wr.cell? ⟨w.heap.size, o, none⟩) ∧ Below wr.heap.size wr W) (exact hkeep.out _ (by (repeat (first | (with_reducible exact Below.refl _ _) | (with_reducible assumption) | (with_reducible refine b_alloc ?_) | (with_reducible refine b_drew ?_) | (with_reducible refine b_drewN ?_) | (with_reducible refine b_set ?_ (by first | (simp; done) | (dsimp only; omega))) | (with_reducible refine b_call ?_ (by assumption))))))
                  (first | (go_at_call 11; refine (Hpk'.out _ (by (repeat (first | (with_reducible exact Below.refl _ _) | (with_reducible assumption) | (with_reducible refine b_alloc ?_) | (with_reducible refine b_drew ?_) | (with_reducible refine b_drewN ?_) | (with_reducible refine b_set ?_ (by first | (simp; done) | (dsimp only; omega))) | (with_reducible refine b_call ?_ (by assumption)))))).mono ?_; rintro e w5 ⟨rfl, hb5⟩; obtain ⟨hc5, hf5⟩ := bcell hb5; have hz6 : wr.heap.size ≤ w5.heap.size := (by have := hb5.size; simp at this; omega)))
                all_goals (go_wp2_with fail; go_meet)
                all_goals exact ⟨rfl, (‹_ ∧ Below wr.heap.size wr _›).2⟩
              case rest =>
                obtain ⟨rfl, hbx⟩ := hcut
                have hBf := b_call hBr hbx
                go_wp2_with (go_at_call 10; refine (Haw.out _ (by (repeat (first | (with_reducible exact Below.refl _ _) | (with_reducible assumption) | (with_reducible refine b_alloc ?_) | (with_reducible refine b_drew ?_) | (with_reducible refine b_drewN ?_) | (with_reducible refine b_set ?_ (by first | (simp; done) | (dsimp only; omega))) | (with_reducible refine b_call ?_ (by assumption)))))).mono ?_; rintro e w9 ⟨rfl, hb9⟩)
                go_ret
                exact ⟨rfl, by (repeat (first | (with_reducible exact Below.refl _ _) | (with_reducible assumption) | (with_reducible refine b_alloc ?_) | (with_reducible refine b_drew ?_) | (with_reducible refine b_drewN ?_) | (with_reducible refine b_set ?_ (by first | (simp; done) | (dsimp only; omega))) | (with_reducible refine b_call ?_ (by assumption))))⟩
    · generalize (replay m first card (-1)).1 = s at *
      generalize (replay m first card (-1)).2.1 = at1 at *
      generalize (replay m first card (-1)).2.2 = er at *
      have be : (er == 0) = false := by simp [hok]
      have Hpr := Lib.hid hpr
      clear hpr hok
      go_enter Tryd.func4, Tryd.ntmps4
      go_wp2_with (first
        | (go_at_call 11; refine (Hpr.out _ (by (repeat (first | (with_reducible exact Below.refl _ _) | (with_reducible assumption) | (with_reducible refine b_alloc ?_) | (with_reducible refine b_drew ?_) | (with_reducible refine b_drewN ?_) | (with_reducible refine b_set ?_ (by first | (simp; done) | (dsimp only; omega))) | (with_reducible refine b_call ?_ (by assumption)))))).mono ?_; rintro e w1 ⟨rfl, hb1⟩)
        | (go_at_call 10; refine (Haw.out _ (by (repeat (first | (with_reducible exact Below.refl _ _) | (with_reducible assumption) | (with_reducible refine b_alloc ?_) | (with_reducible refine b_drew ?_) | (with_reducible refine b_drewN ?_) | (with_reducible refine b_set ?_ (by first | (simp; done) | (dsimp only; omega))) | (with_reducible refine b_call ?_ (by assumption)))))).mono ?_; rintro e w2 ⟨rfl, hb2⟩))
      all_goals (go_ret; exact ⟨rfl, by (repeat (first | (with_reducible exact Below.refl _ _) | (with_reducible assumption) | (with_reducible refine b_alloc ?_) | (with_reducible refine b_drew ?_) | (with_reducible refine b_drewN ?_) | (with_reducible refine b_set ?_ (by first | (simp; done) | (dsimp only; omega))) | (with_reducible refine b_call ?_ (by assumption))))⟩)
end Go.Proofs.YtenofigclkbbiaaDoor
