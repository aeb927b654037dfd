/-
  GameSides: with the teams exchanged everywhere the standing is the same, with the teams exchanged: the walk.
-/
import Derived.Test.YtenofigclkbbiaaDoorAw
import Derived.Test.YtenofigclkbbiaaDoorSw
import Derived.Test.YtenofigclkbbiaaDoorEq
import Derived.Deep.DeepCutAuto
import Derived.Deep.RegionWith
import Derived.Deep.RegionHeld3
import Derived.Deep.DrawnRows
import Derived.IntWalk
set_option linter.unusedVariables false
set_option linter.unusedSimpArgs false
namespace Go.Proofs.YtenofigclkbbiaaDoor
open Go.RowKit
open Game
theorem Tryd.infoLine : (Tryd.prog.info? 42).map (fun i => (i.zero, i.size, i.bytes)) = some (some (.agg #[.int .i64 0, .int .i64 0, .bool false]), 3, 24) := by kernel_rfl
/-- A line's cells. -/
def lnCells (x : Ln) : List Value := [.int .i64 x.team, .int .i64 x.points, .bool x.power]
theorem cells_new3 (w : World) (a b c : Value) (e : TypeId) : ∀ (j : Nat) (u : Value), ([a, b, c] : List Value)[j]? = some u → (w.alloc (.cells #[a, b, c] e)).cell? ((⟨w.heap.size, 0, none⟩ : Addr).add j) = some u := by
  intro j u hu
  have e0 := alloc_at w (.cells #[a, b, c] e)
  match j with
  | 0 => exact (cell_of_row _ w.heap.size 0 _ _ (0, 0) e0).trans (by simpa using hu)
  | 1 => exact (cell_of_row _ w.heap.size 1 _ _ (0, 0) e0).trans (by simpa using hu)
  | 2 => exact (cell_of_row _ w.heap.size 2 _ _ (0, 0) e0).trans (by simpa using hu)
  | j + 3 => simp at hu
theorem lnCells_at (l : List Ln) (i : Nat) (x : Ln) (h : l[i]? = some x) (j : Nat) (hj : j < 3) : (l.flatMap lnCells)[i * 3 + j]? = (lnCells x)[j]? := by
  induction l generalizing i with
  | nil => simp at h
  | cons y r ih =>
    cases i with
    | zero =>
      simp at h; subst h
      rw [List.flatMap_cons, Nat.zero_mul, Nat.zero_add, List.getElem?_append_left (by simp [lnCells]; omega)]
    | succ i =>
      rw [List.flatMap_cons, List.getElem?_append_right (by simp [lnCells]; omega)]
      have : (i + 1) * 3 + j - (lnCells y).length = i * 3 + j := by simp [lnCells]; omega
      rw [this]
      exact ih i (by simpa using h)
theorem own_card {w : World} {B : Nat} {v : Value} {l : List Ln} (h : w.ownsRow B 42 3 v l.length (l.flatMap lnCells)) (hl : l.length ≤ 1000) : ∃ A ca, v = .slice A l.length ca ∧ l.length ≤ ca ∧ Card w A l := by
  rcases h.2 with ⟨rfl, hn⟩ | ⟨g, cap, cur, rfl, h2, h3, h4, _⟩
  · have : l = [] := List.eq_nil_of_length_eq_zero hn
    subst this
    exact ⟨none, 0, rfl, by simp, by simp, fun h => by simp at h⟩
  · refine ⟨some ⟨g, 0, none⟩, cap, rfl, h4, by omega, fun hn => ⟨_, rfl, (Array.getElem?_eq_some_iff.1 h3).1, fun i x hx => ?_⟩⟩
    have hc := fun (j : Nat) (hj : j < 3) => h.cells (g := g) rfl (i * 3 + j)
    have e0 := hc 0 (by omega) _ ((lnCells_at l i x hx 0 (by omega)).trans rfl)
    have e1 := hc 1 (by omega) _ ((lnCells_at l i x hx 1 (by omega)).trans rfl)
    have e2 := hc 2 (by omega) _ ((lnCells_at l i x hx 2 (by omega)).trans rfl)
    have ad : ∀ n, (⟨g, 0, none⟩ : Addr).add n = ⟨g, n, none⟩ := by
      intro n; unfold Addr.add; split
      · rename_i h0; subst h0; rfl
      · simp
    rw [ad] at e0 e1 e2
    rw [ad]
    exact ⟨e0, e1, e2⟩
theorem replay_zero {m : Mt} {first con : Int} {card : List Ln} (h : (replay m first card con).2.2 ≠ 0) : (replay m first card con).1 = St.zero := by
  by_cases h1 : checkMatch m = true
  · by_cases h2 : wi first 0 1 = true
    · by_cases h3 : wi con (-1) 1 = true
      · by_cases h4 : 40 < card.length
        · simp [replay, h1, h2, h3, h4]
        · rcases hw : walk m (St.begun first) 0 card with ⟨t, (_ | i)⟩
          · by_cases h5 : con = -1
            · simp [replay, h1, h2, h4, hw, h5, wi_none] at h
            · by_cases h6 : t.over = true ∨ t.ends < m.early
              · simp [replay, h1, h2, h3, h4, hw, h5, h6]
              · simp [replay, h1, h2, h3, h4, hw, h5, h6] at h
          · simp [replay, h1, h2, h3, h4, hw]
      · simp [replay, h1, h2, h3]
    · simp [replay, h1, h2]
  · simp [replay, h1]
attribute [local go_sem ↓] Go.wp_at_zero Go.wp_at_succ
theorem stands_one {b : Nat} {w0 W : World} (h1 : b < w0.heap.size) (h : Below w0.heap.size w0 W) : (∀ o, W.cell? ⟨b, o, none⟩ = w0.cell? ⟨b, o, none⟩) ∧ Below w0.heap.size w0 W :=
  ⟨fun o => h.cell (p := ⟨b, o, none⟩) h1, h⟩
theorem StAt.put4 {w : World} {g : Nat} {t : St} (h : StAt w g t) (a b : Int) (c d : Bool) : StAt ((((w.setCell ⟨g, 0, none⟩ (.int .i64 a)).setCell ⟨g, 1, none⟩ (.int .i64 b)).setCell ⟨g, 7, none⟩ (.bool c)).setCell ⟨g, 8, none⟩ (.bool d)) g ⟨a, b, t.ends, t.hammer, t.winner, t.over, t.extra, c, d⟩ := by
  unfold StAt at h ⊢
  simp [World.setCell, Array.getElem?_modify, h]
theorem StAt.put2 {w : World} {g : Nat} {t : St} (h : StAt w g t) (a b : Int) : StAt ((w.setCell ⟨g, 3, none⟩ (.int .i64 a)).setCell ⟨g, 4, none⟩ (.int .i64 b)) g ⟨t.p0, t.p1, t.ends, a, b, t.over, t.extra, t.w0, t.w1⟩ := by
  unfold StAt at h ⊢
  simp [World.setCell, Array.getElem?_modify, h]
set_option maxHeartbeats 8000000 in
set_option maxRecDepth 100000 in
theorem GameSides_walk (m : Mt) (first : Int) (A : Option Addr) (cap : Nat) (card : List Ln) (con : Int) (w : World) (hc : Card w A card) (hcap : card.length ≤ cap) (htab : Tab w) :
    Calls Tryd.prog 5 #[mval m, .int .i64 first, .slice A card.length cap, .int .i64 con] w fun e w' => e = .returned (.bool true) ∧ Below w.heap.size w w' := by
  have Haw := Lib.hid (fun (W : World) (hW : Below w.heap.size w W) => awake_any W (htab.below hW (Nat.le_refl _)))
  have hln := hc.1
  have Hpr := Lib.hid (fun (W : World) (hW : Below w.heap.size w W) => pReplay_any m first A cap card con W (hc.in_.below hW (Nat.le_refl _) |>.to hW.size))
  by_cases h60 : 60 < card.length
  · go_enter Tryd.func5, Tryd.ntmps5
    go_wp2_with (go_at_call 10; refine (Haw.out _ (by (repeat (first | (with_reducible exact Below.refl _ _) | (with_reducible assumption) | (with_reducible refine b_alloc ?_) | (with_reducible refine b_drew ?_) | (with_reducible refine b_drewN ?_) | (with_reducible refine b_set ?_ (by first | (simp; done) | (dsimp only; omega))) | (with_reducible refine b_call ?_ (by assumption)))))).mono ?_; rintro e w1 ⟨rfl, hb1⟩)
    go_ret
    exact ⟨rfl, by (repeat (first | (with_reducible exact Below.refl _ _) | (with_reducible assumption) | (with_reducible refine b_alloc ?_) | (with_reducible refine b_drew ?_) | (with_reducible refine b_drewN ?_) | (with_reducible refine b_set ?_ (by first | (simp; done) | (dsimp only; omega))) | (with_reducible refine b_call ?_ (by assumption))))⟩
  · by_cases hgood : (replay m first card con).2.2 ≠ 3 ∧ 0 ≤ first ∧ first ≤ 1 ∧ -1 ≤ con ∧ con ≤ 1
    · obtain ⟨he3, hf0, hf1, hc0, hc1⟩ := hgood
      have hsw := replay_sw (m := m) (card := card) (first := first) (con := con) (by simp [wi]; omega) (by simp [wi]; omega) he3
      have hzero := replay_zero (m := m) (card := card) (first := first) (con := con)
      have hs1 : (replay m (1 - first) (card.map swLn) (swap con)).2.1 = (replay m first card con).2.1 := by rw [hsw.1]
      have hs2 : (replay m (1 - first) (card.map swLn) (swap con)).2.2 = (replay m first card con).2.2 := by rw [hsw.1]
      have hs3 := hsw.2
      clear hsw
      generalize (replay m first card con).1 = s at *
      generalize (replay m first card con).2.1 = at1 at *
      generalize hee : (replay m first card con).2.2 = er at *
      have Hs1 := Lib.hid hs1
      have Hs2 := Lib.hid hs2
      have Hs3 := Lib.hid hs3
      have Hzero := Lib.hid hzero
      have he3' : (er == 3) = false := by simpa using he3
      have hcB := hc.in_
      obtain ⟨i0, hj, hj0, hj1, hj2⟩ := info_parts Tryd.infoLine
      clear hs1 hs2 hs3 hzero hee he3
      go_enter Tryd.func5, Tryd.ntmps5
      go_wp2_with (go_at_call 11; refine (Hpr.out _ (by (repeat (first | (with_reducible exact Below.refl _ _) | (with_reducible assumption) | (with_reducible refine b_alloc ?_) | (with_reducible refine b_drew ?_) | (with_reducible refine b_drewN ?_) | (with_reducible refine b_set ?_ (by first | (simp; done) | (dsimp only; omega))) | (with_reducible refine b_call ?_ (by assumption)))))).mono ?_; rintro e w1 ⟨rfl, hb1⟩)
      have hB1 := b_call (b_alloc (Below.refl w.heap.size w)) hb1
      have hM1 : MtAt w1 w.heap.size m := (hb1.block _ (by simp)).trans (alloc_at w _)
      have hS1 : StAt (w1.alloc (.cells #[.int .i64 s.p0, .int .i64 s.p1, .int .i64 s.ends, .int .i64 s.hammer, .int .i64 s.winner, .bool s.over, .bool s.extra, .bool s.w0, .bool s.w1] 29)) w1.heap.size s := alloc_at w1 _
      have hz1 : w.heap.size < w1.heap.size := hM1.cells.2.2.2.2.2.2
      clear hb1
      go_loopw [12, 13] (fun v i wr => ∃ k : Nat, k ≤ card.length ∧ i = .int .i64 k ∧ wr.ownsRow (w1.heap.size + 1) 42 3 v k (((card.map swLn).take k).flatMap lnCells) ∧ MtAt wr w.heap.size m ∧ StAt wr w1.heap.size s ∧ Below w.heap.size w wr)
        (fun _ i _ => card.length - (intOf i).toNat)
      case atStart => exact ⟨0, by omega, rfl, World.ownsRow_nil _ _ _ _, hM1.kept (alloc_old _ _ hz1), hS1, b_alloc hB1⟩
      case round =>
        obtain ⟨k, hk, rfl, hown, hM, hS, hB⟩ := hrel
        clear hM1 hS1 hB1
        have hzS := hS.cells.2.2.2.2.2.2.2.2.2.2
        by_cases hlt : k < card.length
        · obtain ⟨ad, x, rfl, hadb, hx, x0, x1, x2⟩ := ((hcB.below hB (Nat.le_refl _)).to hB.size).at_ hlt
          have hsn : ((card.map swLn).take (k + 1)).flatMap lnCells = ((card.map swLn).take k).flatMap lnCells ++ lnCells (swLn x) := by
            rw [List.take_add_one, List.getElem?_map, hx]
            simp
          have Hsn := Lib.hid hsn
          have hbx := b_alloc (o := .cells #[.int .i64 x.team, .int .i64 x.points, .bool x.power] 42) (Below.refl wr.heap.size wr)
          clear hsn
          go_wp2_with (first
            | (go_at_call 20; refine (swapped_any _ _).mono ?_; rintro e w' ⟨rfl, rfl⟩)
            | (at_builtin; refine wpList_append_own _ rfl _ _ 24 rfl (w1.heap.size + 1) 42 i0 (.agg #[.int .i64 0, .int .i64 0, .bool false]) 3 24 (by kernel_rfl) hj hj0 hj1 hj2 rfl (by decide) _ _ _ rfl ((hown.alloc _).alloc _) ⟨wr.heap.size + 1, 0, none⟩ 1 1 (lnCells (swLn x)) rfl rfl ?c1 ?c2 ?c3 ?c4 ?c5 ?_))
          case c1 =>
            have h9 := cells_new3 (wr.alloc (.cells #[.int .i64 (swap x.team), .int .i64 x.points, .bool x.power] 42)) (.int .i64 (swap x.team)) (.int .i64 x.points) (.bool x.power) 42
            rw [World.size_alloc] at h9
            exact h9
          case c2 => intro u hu; simp [lnCells] at hu; rcases hu with rfl | rfl | rfl <;> rfl
          case c3 => unfold maxLen; omega
          case c4 => omega
          case c5 => simp; omega
          intro v' w2 hown2 hgr hnn
          have hb2 := own_grow ((hown.alloc (.cells #[.int .i64 (swap x.team), .int .i64 x.points, .bool x.power] 42)).alloc (.cells #[.int .i64 (swap x.team), .int .i64 x.points, .bool x.power] 42)) hgr (by simp; omega)
          have hlt2 : w1.heap.size < wr.heap.size := hzS
          have hM2 := ((hM.kept (alloc_old wr (.cells #[.int .i64 (swap x.team), .int .i64 x.points, .bool x.power] 42) (by omega))).kept (alloc_old _ (.cells #[.int .i64 (swap x.team), .int .i64 x.points, .bool x.power] 42) (by simp; omega))).kept (hb2.block _ (by omega))
          have hS2 := ((hS.kept (alloc_old wr (.cells #[.int .i64 (swap x.team), .int .i64 x.points, .bool x.power] 42) (by omega))).kept (alloc_old _ (.cells #[.int .i64 (swap x.team), .int .i64 x.points, .bool x.power] 42) (by simp; omega))).kept (hb2.block _ (by omega))
          have hB2 := b_below (b_alloc (o := .cells #[.int .i64 (swap x.team), .int .i64 x.points, .bool x.power] 42) (b_alloc (o := .cells #[.int .i64 (swap x.team), .int .i64 x.points, .bool x.power] 42) hB)) hb2 (by omega)
          clear hgr hb2 x0 x1 x2 hown hM hS hB
          go_wp2_with fail
          go_roundw
          case rel => exact ⟨k + 1, by omega, by go_num, by rw [Hsn.out]; exact hown2, hM2, hS2, hB2⟩
          case measure => simp [intOf]; omega
        · obtain rfl : k = card.length := by omega
          rw [List.take_of_length_le (by simp)] at hown
          obtain ⟨Ao, co, rfl, hco, hCo⟩ := own_card (l := card.map swLn) (by simpa using hown) (by simp; omega)
          simp only [List.length_map]
          have hcl := (fun (W : World) (hW : Below wr.heap.size wr W) => pReplay_any m (1 - first) Ao co (card.map swLn) (swap con) W (hCo.below hW))
          simp only [Hs1.out, Hs2.out, Hs3.out, List.length_map] at hcl
          obtain ⟨t, ht⟩ : ∃ t, t = (if er = 0 then swSt s else St.zero) := ⟨_, rfl⟩
          rw [← ht] at hcl
          have Ht := Lib.hid ht
          have Hcl := Lib.hid hcl
          clear ht hcl hown
          have hlen2 : (card.map swLn).length = card.length := List.length_map ..
          have Hlen2 := Lib.hid hlen2
          rw [hlen2] at hco
          clear hlen2
          obtain ⟨q0, q1, q2, q3, q4, qf, qz⟩ := hM.cells
          have hln2 : ((List.map swLn card).length : Int) ≤ 60 := by rw [Hlen2.out]; omega
          go_wp2_with fail
          go_cut [15, 16, 17] (fun s15 s16 s17 wx => ∃ g : Nat, s15 = .pointer (some ⟨g, 0, none⟩) ∧ wr.heap.size ≤ g ∧ s16 = .int .i64 at1 ∧ s17 = .int .i64 er ∧ StAt wx g t ∧ Below wr.heap.size wr wx)
          case first =>
            have hwrap : IntKind.i64.wrap (1 - first) = 1 - first := IntWalk.i64_in _ (by omega)
            have hkeep := Lib.hid (fun (W : World) (h : Below wr.heap.size wr W) => stands_one (b := w.heap.size) qz h)
            go_region_held3 (fun W => (∀ o, W.cell? ⟨w.heap.size, o, none⟩ = wr.cell? ⟨w.heap.size, o, none⟩) ∧ Below wr.heap.size wr W) (exact hkeep.out _ (by (repeat (first | (with_reducible exact Below.refl _ _) | (with_reducible assumption) | (with_reducible refine b_alloc ?_) | (with_reducible refine b_drew ?_) | (with_reducible refine b_drewN ?_) | (with_reducible refine b_set ?_ (by first | (simp; done) | (dsimp only; omega))) | (with_reducible refine b_call ?_ (by assumption)))))) (first
              | (go_at_call 20; refine (swapped_any _ _).mono ?_; rintro e w' ⟨rfl, rfl⟩)
              | (go_at_call 11; refine (Hcl.out _ (by (repeat (first | (with_reducible exact Below.refl _ _) | (with_reducible assumption) | (with_reducible refine b_alloc ?_) | (with_reducible refine b_drew ?_) | (with_reducible refine b_drewN ?_) | (with_reducible refine b_set ?_ (by first | (simp; done) | (dsimp only; omega))) | (with_reducible refine b_call ?_ (by assumption)))))).mono ?_; rintro e w5 ⟨rfl, hb5⟩; obtain ⟨hc5, hf5⟩ := bcell hb5; have hz6 : wr.heap.size ≤ w5.heap.size := (by have := hb5.size; simp at this; omega)))
            all_goals (go_wp2_with fail; go_meet)
            · have hbz := (‹_ ∧ Below wr.heap.size wr _›).2
              exact ⟨w5.heap.size, rfl, hz6, rfl, rfl, alloc_at w5 _, hbz⟩
            · have hbz := (‹_ ∧ Below wr.heap.size wr _›).2
              have hz : StAt (wr.alloc (.cells #[.int .i64 0, .int .i64 0, .int .i64 0, .int .i64 0, .int .i64 0, .bool false, .bool false, .bool false, .bool false] 29)) wr.heap.size St.zero := alloc_at wr _
              have hz5 : StAt w5 wr.heap.size St.zero := hz.kept (hb5.block _ (by simp))
              exact ⟨wr.heap.size, rfl, Nat.le_refl _, rfl, rfl, StAt.store hz5 t, hbz⟩
            · have hbz := (‹_ ∧ Below wr.heap.size wr _›).2
              have hz : StAt (wr.alloc (.cells #[.int .i64 0, .int .i64 0, .int .i64 0, .int .i64 0, .int .i64 0, .bool false, .bool false, .bool false, .bool false] 29)) wr.heap.size St.zero := alloc_at wr _
              have hz5 : StAt w5 wr.heap.size St.zero := hz.kept (hb5.block _ (by simp))
              exact ⟨wr.heap.size, rfl, Nat.le_refl _, rfl, rfl, StAt.store hz5 t, hbz⟩
          case rest =>
            obtain ⟨g, rfl, hg, rfl, rfl, hT, hbx⟩ := hcut
            have hSx := hS.below hbx
            have hzx := hbx.size
            have hBx := b_call hB hbx
            obtain ⟨t0, t1, t2, t3, t4, t5, t6, t7, t8, tf, tz⟩ := hT.cells
            obtain ⟨s0, s1, s2, s3, s4, s5, s6, s7, s8, sf, sz⟩ := hSx.cells
            clear q0 q1 q2 q3 q4 qf qz Hcl hM hS hCo
            have hgw : g ≠ w1.heap.size := by omega
            go_upto_region 16 with fail
            obtain ⟨wy, hwy⟩ : ∃ wy, wy = (((wc.setCell ⟨g, 0, none⟩ (.int .i64 t.p1)).setCell ⟨g, 1, none⟩ (.int .i64 t.p0)).setCell ⟨g, 7, none⟩ (.bool t.w1)).setCell ⟨g, 8, none⟩ (.bool t.w0) := ⟨_, rfl⟩
            have hTy : StAt wy g ⟨t.p1, t.p0, t.ends, t.hammer, t.winner, t.over, t.extra, t.w1, t.w0⟩ := by rw [hwy]; exact hT.put4 _ _ _ _
            have hSy : StAt wy w1.heap.size s := by
              rw [hwy]
              exact hSx.kept (by rw [heap_set (by exact Ne.symm hgw), heap_set (by exact Ne.symm hgw), heap_set (by exact Ne.symm hgw), heap_set (by exact Ne.symm hgw)])
            have hBy : Below wr.heap.size wr wy := by rw [hwy]; exact by (repeat (first | (with_reducible exact Below.refl _ _) | (with_reducible assumption) | (with_reducible refine b_alloc ?_) | (with_reducible refine b_drew ?_) | (with_reducible refine b_drewN ?_) | (with_reducible refine b_set ?_ (by first | (simp; done) | (dsimp only; omega))) | (with_reducible refine b_call ?_ (by assumption))))
            rw [← hwy]
            clear hwy hT hSx hbx hzx hBx t0 t1 t2 t3 t4 t5 t6 t7 t8 tf tz s0 s1 s2 s3 s4 s5 s6 s7 s8 sf sz
            by_cases he : er = 0
            · subst he
              rw [show t = swSt s by rw [Ht.out]; simp] at hTy
              have hsw2 := swSt_swSt s
              simp only [swSt] at hTy hsw2
              clear Hs2 Hs3 Hzero
              obtain ⟨t0, t1, t2, t3, t4, t5, t6, t7, t8, tf, tz⟩ := hTy.cells
              go_upto_region 17 with fail
              go_cut [] (fun wx => StAt wx g s ∧ StAt wx w1.heap.size s ∧ Below wr.heap.size wr wx)
              case first =>
                go_region_with (go_at_call 20; refine (swapped_any _ _).mono ?_; rintro e w' ⟨rfl, rfl⟩)
                all_goals (go_wp2_with fail; go_meet)
                all_goals
                  rw [swap_swap, swap_swap]
                  refine ⟨hTy.put2 s.hammer s.winner, hSy.kept ?_, by (repeat (first | (with_reducible exact Below.refl _ _) | (with_reducible assumption) | (with_reducible refine b_alloc ?_) | (with_reducible refine b_drew ?_) | (with_reducible refine b_drewN ?_) | (with_reducible refine b_set ?_ (by first | (simp; done) | (dsimp only; omega))) | (with_reducible refine b_call ?_ (by assumption))))⟩
                  exact (heap_set (by exact Ne.symm hgw)).trans (heap_set (by exact Ne.symm hgw))
              case rest =>
                obtain ⟨hTz, hSz, hBz⟩ := hcut
                clear t0 t1 t2 t3 t4 t5 t6 t7 t8 tf tz hTy hSy hBy
                obtain ⟨t0, t1, t2, t3, t4, t5, t6, t7, t8, tf, tz⟩ := hTz.cells
                obtain ⟨s0, s1, s2, s3, s4, s5, s6, s7, s8, sf, sz⟩ := hSz.cells
                have heq := eq_st s s
                simp only [decide_true] at heq
                have hBf := b_call hB hBz
                go_wp2_with (go_at_call 10; refine (Haw.out _ (by (repeat (first | (with_reducible exact Below.refl _ _) | (with_reducible assumption) | (with_reducible refine b_alloc ?_) | (with_reducible refine b_drew ?_) | (with_reducible refine b_drewN ?_) | (with_reducible refine b_set ?_ (by first | (simp; done) | (dsimp only; omega))) | (with_reducible refine b_call ?_ (by assumption)))))).mono ?_; rintro e w9 ⟨rfl, hb9⟩)
                go_ret
                exact ⟨rfl, by (repeat (first | (with_reducible exact Below.refl _ _) | (with_reducible assumption) | (with_reducible refine b_alloc ?_) | (with_reducible refine b_drew ?_) | (with_reducible refine b_drewN ?_) | (with_reducible refine b_set ?_ (by first | (simp; done) | (dsimp only; omega))) | (with_reducible refine b_call ?_ (by assumption))))⟩
            · rw [show t = St.zero by rw [Ht.out]; simp [he]] at hTy
              have hTz : StAt wy g s := by rw [Hzero.out he]; exact hTy
              have hSz := hSy
              have hBz := hBy
              have be : (er == 0) = false := by simp [he]
              clear hTy hSy hBy
              obtain ⟨t0, t1, t2, t3, t4, t5, t6, t7, t8, tf, tz⟩ := hTz.cells
              obtain ⟨s0, s1, s2, s3, s4, s5, s6, s7, s8, sf, sz⟩ := hSz.cells
              have heq := eq_st s s
              simp only [decide_true] at heq
              have hBf := b_call hB hBz
              go_wp2_with (go_at_call 10; refine (Haw.out _ (by (repeat (first | (with_reducible exact Below.refl _ _) | (with_reducible assumption) | (with_reducible refine b_alloc ?_) | (with_reducible refine b_drew ?_) | (with_reducible refine b_drewN ?_) | (with_reducible refine b_set ?_ (by first | (simp; done) | (dsimp only; omega))) | (with_reducible refine b_call ?_ (by assumption)))))).mono ?_; rintro e w9 ⟨rfl, hb9⟩)
              go_ret
              exact ⟨rfl, by (repeat (first | (with_reducible exact Below.refl _ _) | (with_reducible assumption) | (with_reducible refine b_alloc ?_) | (with_reducible refine b_drew ?_) | (with_reducible refine b_drewN ?_) | (with_reducible refine b_set ?_ (by first | (simp; done) | (dsimp only; omega))) | (with_reducible refine b_call ?_ (by assumption))))⟩
    · generalize (replay m first card con).1 = s at *
      generalize (replay m first card con).2.1 = at1 at *
      generalize (replay m first card con).2.2 = er at *
      by_cases he : er = 3
      · subst he
        clear hgood
        go_enter Tryd.func5, Tryd.ntmps5
        go_wp2_with (first
          | (go_at_call 11; refine (Hpr.out _ (by (repeat (first | (with_reducible exact Below.refl _ _) | (with_reducible assumption) | (with_reducible refine b_alloc ?_) | (with_reducible refine b_drew ?_) | (with_reducible refine b_drewN ?_) | (with_reducible refine b_set ?_ (by first | (simp; done) | (dsimp only; omega))) | (with_reducible refine b_call ?_ (by assumption)))))).mono ?_; rintro e w1 ⟨rfl, hb1⟩)
          | (go_at_call 10; refine (Haw.out _ (by (repeat (first | (with_reducible exact Below.refl _ _) | (with_reducible assumption) | (with_reducible refine b_alloc ?_) | (with_reducible refine b_drew ?_) | (with_reducible refine b_drewN ?_) | (with_reducible refine b_set ?_ (by first | (simp; done) | (dsimp only; omega))) | (with_reducible refine b_call ?_ (by assumption)))))).mono ?_; rintro e w2 ⟨rfl, hb2⟩))
        go_ret
        exact ⟨rfl, by (repeat (first | (with_reducible exact Below.refl _ _) | (with_reducible assumption) | (with_reducible refine b_alloc ?_) | (with_reducible refine b_drew ?_) | (with_reducible refine b_drewN ?_) | (with_reducible refine b_set ?_ (by first | (simp; done) | (dsimp only; omega))) | (with_reducible refine b_call ?_ (by assumption))))⟩
      · have be : (er == 3) = false := by simp [he]
        by_cases h1 : first < 0
        · clear hgood
          go_enter Tryd.func5, Tryd.ntmps5
          go_wp2_with (first
            | (go_at_call 11; refine (Hpr.out _ (by (repeat (first | (with_reducible exact Below.refl _ _) | (with_reducible assumption) | (with_reducible refine b_alloc ?_) | (with_reducible refine b_drew ?_) | (with_reducible refine b_drewN ?_) | (with_reducible refine b_set ?_ (by first | (simp; done) | (dsimp only; omega))) | (with_reducible refine b_call ?_ (by assumption)))))).mono ?_; rintro e w1 ⟨rfl, hb1⟩)
            | (go_at_call 10; refine (Haw.out _ (by (repeat (first | (with_reducible exact Below.refl _ _) | (with_reducible assumption) | (with_reducible refine b_alloc ?_) | (with_reducible refine b_drew ?_) | (with_reducible refine b_drewN ?_) | (with_reducible refine b_set ?_ (by first | (simp; done) | (dsimp only; omega))) | (with_reducible refine b_call ?_ (by assumption)))))).mono ?_; rintro e w2 ⟨rfl, hb2⟩))
          go_ret
          exact ⟨rfl, by (repeat (first | (with_reducible exact Below.refl _ _) | (with_reducible assumption) | (with_reducible refine b_alloc ?_) | (with_reducible refine b_drew ?_) | (with_reducible refine b_drewN ?_) | (with_reducible refine b_set ?_ (by first | (simp; done) | (dsimp only; omega))) | (with_reducible refine b_call ?_ (by assumption))))⟩
        · by_cases h2 : 1 < first
          · clear hgood
            go_enter Tryd.func5, Tryd.ntmps5
            go_wp2_with (first
              | (go_at_call 11; refine (Hpr.out _ (by (repeat (first | (with_reducible exact Below.refl _ _) | (with_reducible assumption) | (with_reducible refine b_alloc ?_) | (with_reducible refine b_drew ?_) | (with_reducible refine b_drewN ?_) | (with_reducible refine b_set ?_ (by first | (simp; done) | (dsimp only; omega))) | (with_reducible refine b_call ?_ (by assumption)))))).mono ?_; rintro e w1 ⟨rfl, hb1⟩)
              | (go_at_call 10; refine (Haw.out _ (by (repeat (first | (with_reducible exact Below.refl _ _) | (with_reducible assumption) | (with_reducible refine b_alloc ?_) | (with_reducible refine b_drew ?_) | (with_reducible refine b_drewN ?_) | (with_reducible refine b_set ?_ (by first | (simp; done) | (dsimp only; omega))) | (with_reducible refine b_call ?_ (by assumption)))))).mono ?_; rintro e w2 ⟨rfl, hb2⟩))
            go_ret
            exact ⟨rfl, by (repeat (first | (with_reducible exact Below.refl _ _) | (with_reducible assumption) | (with_reducible refine b_alloc ?_) | (with_reducible refine b_drew ?_) | (with_reducible refine b_drewN ?_) | (with_reducible refine b_set ?_ (by first | (simp; done) | (dsimp only; omega))) | (with_reducible refine b_call ?_ (by assumption))))⟩
          · by_cases h3 : con < -1
            · clear hgood
              go_enter Tryd.func5, Tryd.ntmps5
              go_wp2_with (first
                | (go_at_call 11; refine (Hpr.out _ (by (repeat (first | (with_reducible exact Below.refl _ _) | (with_reducible assumption) | (with_reducible refine b_alloc ?_) | (with_reducible refine b_drew ?_) | (with_reducible refine b_drewN ?_) | (with_reducible refine b_set ?_ (by first | (simp; done) | (dsimp only; omega))) | (with_reducible refine b_call ?_ (by assumption)))))).mono ?_; rintro e w1 ⟨rfl, hb1⟩)
                | (go_at_call 10; refine (Haw.out _ (by (repeat (first | (with_reducible exact Below.refl _ _) | (with_reducible assumption) | (with_reducible refine b_alloc ?_) | (with_reducible refine b_drew ?_) | (with_reducible refine b_drewN ?_) | (with_reducible refine b_set ?_ (by first | (simp; done) | (dsimp only; omega))) | (with_reducible refine b_call ?_ (by assumption)))))).mono ?_; rintro e w2 ⟨rfl, hb2⟩))
              go_ret
              exact ⟨rfl, by (repeat (first | (with_reducible exact Below.refl _ _) | (with_reducible assumption) | (with_reducible refine b_alloc ?_) | (with_reducible refine b_drew ?_) | (with_reducible refine b_drewN ?_) | (with_reducible refine b_set ?_ (by first | (simp; done) | (dsimp only; omega))) | (with_reducible refine b_call ?_ (by assumption))))⟩
            · have h4 : 1 < con := by omega
              clear hgood
              go_enter Tryd.func5, Tryd.ntmps5
              go_wp2_with (first
                | (go_at_call 11; refine (Hpr.out _ (by (repeat (first | (with_reducible exact Below.refl _ _) | (with_reducible assumption) | (with_reducible refine b_alloc ?_) | (with_reducible refine b_drew ?_) | (with_reducible refine b_drewN ?_) | (with_reducible refine b_set ?_ (by first | (simp; done) | (dsimp only; omega))) | (with_reducible refine b_call ?_ (by assumption)))))).mono ?_; rintro e w1 ⟨rfl, hb1⟩)
                | (go_at_call 10; refine (Haw.out _ (by (repeat (first | (with_reducible exact Below.refl _ _) | (with_reducible assumption) | (with_reducible refine b_alloc ?_) | (with_reducible refine b_drew ?_) | (with_reducible refine b_drewN ?_) | (with_reducible refine b_set ?_ (by first | (simp; done) | (dsimp only; omega))) | (with_reducible refine b_call ?_ (by assumption)))))).mono ?_; rintro e w2 ⟨rfl, hb2⟩))
              all_goals (go_ret; exact ⟨rfl, by (repeat (first | (with_reducible exact Below.refl _ _) | (with_reducible assumption) | (with_reducible refine b_alloc ?_) | (with_reducible refine b_drew ?_) | (with_reducible refine b_drewN ?_) | (with_reducible refine b_set ?_ (by first | (simp; done) | (dsimp only; omega))) | (with_reducible refine b_call ?_ (by assumption))))⟩)
end Go.Proofs.YtenofigclkbbiaaDoor
