/-
  Who has the hammer: the reference.
-/
import Derived.Test.YtenofigclkbbiaaDoorG
import Derived.Deep.RegionHeld3
import Derived.Deep.RegionWith
import Derived.Deep.LoopGhost
import Derived.Deep.DeepCutAuto
import Derived.Maps.AppendAt
set_option linter.unusedVariables false
set_option linter.unusedSimpArgs false
namespace Go.Proofs.YtenofigclkbbiaaDoor
open Go.RowKit
open Game

/-- The state behind lines, whatever they are. -/
def fold (m : Mt) : St → List Ln → St
  | s, [] => s
  | s, x :: r => fold m (behind m s x) r
theorem walk_none {m : Mt} {s t : St} {k : Nat} {l : List Ln} (h : walk m s k l = (t, none)) (j : Nat) : walk m s k (l.take j) = (fold m s (l.take j), none) := by
  induction l generalizing s k j with
  | nil => simp [walk, fold]
  | cons x r ih =>
    by_cases hf : fits m s x = true
    · rw [walk_step hf] at h
      cases j with
      | zero => simp [walk, fold]
      | succ j => rw [List.take_succ_cons, walk_step hf, ih h j]; rfl
    · rw [walk_stop (Bool.eq_false_iff.2 hf)] at h
      cases h
theorem walk_none_end {m : Mt} {s t : St} {k : Nat} {l : List Ln} (h : walk m s k l = (t, none)) : t = fold m s l := by
  have := walk_none h l.length
  rw [List.take_length, h] at this
  exact (Prod.mk.inj this).1
/-- Who has the hammer: in each end that was played, and in the next one. -/
def hamsOf (m : Mt) (first : Int) (card : List Ln) : List Int :=
  if (replay m first card (-1)).2.2 = 0 then (List.range card.length).map (fun j => (fold m (St.begun first) (card.take j)).hammer) ++ (if (replay m first card (-1)).1.over = true then [] else [(replay m first card (-1)).1.hammer]) else []
theorem wi_none : wi (-1) (-1) 1 = true := by decide
theorem replay_ok {m : Mt} {first : Int} {card : List Ln} (h : (replay m first card (-1)).2.2 = 0) : checkMatch m = true ∧ wi first 0 1 = true ∧ card.length ≤ 40 ∧ walk m (St.begun first) 0 card = (fold m (St.begun first) card, none) ∧ replay m first card (-1) = (fold m (St.begun first) card, -1, 0) := by
  by_cases h1 : checkMatch m = true
  · by_cases h2 : wi first 0 1 = true
    · by_cases h4 : 40 < card.length
      · simp [replay, h1, h2, h4, wi_none] at h
      · rcases hw : walk m (St.begun first) 0 card with ⟨t, (_ | i)⟩
        · have e := walk_none_end hw
          subst e
          exact ⟨h1, h2, by omega, rfl, by simp [replay, h1, h2, h4, hw, wi_none]⟩
        · simp [replay, h1, h2, h4, hw, wi_none] at h
    · simp [replay, h1, h2] at h
  · simp [replay, h1] at h
theorem replay_take {m : Mt} {first : Int} {card : List Ln} (h : (replay m first card (-1)).2.2 = 0) (j : Nat) : replay m first (card.take j) (-1) = (fold m (St.begun first) (card.take j), -1, 0) := by
  obtain ⟨h1, h2, h4, hw, _⟩ := replay_ok h
  have h4' : ¬ 40 < (card.take j).length := by have := List.length_take_le' j card; omega
  simp only [replay, h1, h2, h4', walk_none hw j, wi_none]
  simp
theorem Card.take {w : World} {A : Option Addr} {card : List Ln} (h : Card w A card) (j : Nat) : Card w A (card.take j) := by
  refine ⟨by have := h.1; have := List.length_take_le' j card; omega, fun hn => ?_⟩
  obtain ⟨ad, e, hb, hc⟩ := h.2 (by have := List.length_take_le' j card; omega)
  refine ⟨ad, e, hb, fun i x hx => hc i x ?_⟩
  rw [List.getElem?_take] at hx
  split at hx
  · exact hx
  · cases hx
theorem Tryd.info3 : (Tryd.prog.info? 3).map (fun i => (i.zero, i.size, i.bytes)) = some (some (.int .i64 0), 1, 8) := by kernel_rfl
/-- A result that is a slice of integers of the call's own, and an error. -/
def HamsPost (w : World) (xs : List Int) (er : Int) (e : Ending) (w' : World) : Prop := ∃ v, e = .returned (.tuple #[v, .int .i64 er]) ∧ w'.ownsRow w.heap.size 3 1 v xs.length (xs.map (Value.int .i64)) ∧ Below w.heap.size w w'
theorem own_below {B : Nat} {e : TypeId} {k : Nat} {v : Value} {n : Nat} {xs : List Value} {w w' : World} (h : w.ownsRow B e k v n xs) (hb : Below w.heap.size w w') : w'.ownsRow B e k v n xs := by
  refine h.kept (row := none) ⟨hb.os, hb.tape, hb.output, hb.size, fun i hi _ => hb.block i hi⟩ ?_
  cases v.ownBlock with
  | none => exact .inl rfl
  | some g => exact .inr (by simp)
/-- What the call's own row's growing leaves: the blocks below the row's base. -/
theorem own_grow {w w' : World} {B : Nat} {e : TypeId} {k : Nat} {v : Value} {n : Nat} {xs : List Value} (h : w.ownsRow B e k v n xs) (hg : w.grownBy w' v.ownBlock) (hB : B ≤ w.heap.size) : Below B w w' :=
  ⟨hg.os, hg.tape, hg.output, hg.size, fun i hi => hg.block i (Nat.lt_of_lt_of_le hi hB) (fun e' => by have := h.lt _ e'.symm; omega)⟩
theorem own_mono {B B' : Nat} {e : TypeId} {k : Nat} {v : Value} {n : Nat} {xs : List Value} {w : World} (h : w.ownsRow B e k v n xs) (hB : B' ≤ B) : w.ownsRow B' e k v n xs := by
  refine ⟨h.1, ?_⟩
  rcases h.2 with h' | ⟨g, cap, cur, h1, h2, h3⟩
  · exact .inl h'
  · exact .inr ⟨g, cap, cur, h1, Nat.le_trans hB h2, h3⟩
theorem b_below {w W W' : World} {B : Nat} (h : Below w.heap.size w W) (k : Below B W W') (hB : w.heap.size ≤ B) : Below w.heap.size w W' :=
  h.trans ⟨k.os, k.tape, k.output, k.size, fun i hi => k.block i (Nat.lt_of_lt_of_le hi hB)⟩
set_option maxHeartbeats 4000000 in
set_option maxRecDepth 100000 in
theorem rHammers_any (m : Mt) (first : Int) (A : Option Addr) (cap : Nat) (card : List Ln) (w : World) (hc : Card w A card) (hcap : card.length ≤ cap) :
    Calls Tryd.prog 14 #[mval m, .int .i64 first, .slice A card.length cap] w (HamsPost w (hamsOf m first card) (replay m first card (-1)).2.2) := by
  have hrep := fun (W : World) (hW : Below w.heap.size w W) => rReplay_any m first A cap card (-1) W (hc.in_.below hW (Nat.le_refl _) |>.to hW.size)
  by_cases hok : (replay m first card (-1)).2.2 = 0
  · obtain ⟨h1, h2, h4, hw, hre⟩ := replay_ok hok
    have hh := Lib.hid (show hamsOf m first card = (List.range card.length).map (fun j => (fold m (St.begun first) (card.take j)).hammer) ++ (if (fold m (St.begun first) card).over = true then [] else [(fold m (St.begun first) card).hammer]) by simp [hamsOf, hok, hre])
    have htake := Lib.hid (fun j => replay_take (first := first) (m := m) hok j)
    obtain ⟨i0, hi, hz0, hz1, hz2⟩ := info_parts Tryd.info3
    rw [hre] at hrep
    rw [hre]
    clear hok hw hre h1 h2
    generalize fold m (St.begun first) card = tl at *
    go_enter Tryd.func14, Tryd.ntmps14
    go_wp2_with (go_at_call 12; refine (hrep _ (by (repeat (first | (with_reducible exact Below.refl _ _) | (with_reducible assumption) | (with_reducible refine b_alloc ?_) | (with_reducible refine b_drew ?_) | (with_reducible refine b_drewN ?_) | (with_reducible refine b_set ?_ (by first | (simp; done) | (dsimp only; omega))) | (with_reducible refine b_call ?_ (by assumption)))))).mono ?_; rintro e w1 ⟨rfl, hb1⟩)
    have hB1 := b_call (b_alloc (Below.refl w.heap.size w)) hb1
    have hM : MtAt w1 w.heap.size m := (hb1.block _ (by simp)).trans (alloc_at w _)
    have hs1 : w.heap.size + 1 ≤ w1.heap.size := by have := hb1.size; simpa using this
    clear hb1 hrep
    have hcB := hc.in_
    go_loopg [11, 12] card.length (fun g v i wr => ∃ k : Nat, k ≤ card.length ∧ g = card.length - k ∧ i = .int .i64 k ∧ wr.ownsRow (w1.heap.size + 1) 3 1 v k (((List.range k).map (fun j => (fold m (St.begun first) (card.take j)).hammer)).map (Value.int .i64)) ∧
      MtAt wr w.heap.size m ∧ StAt wr w1.heap.size tl ∧ Below w.heap.size w wr)
    case atStart => exact ⟨0, by omega, rfl, rfl, World.ownsRow_nil _ _ _ _, hM.kept (alloc_old _ _ (by omega)), alloc_at _ _, b_alloc hB1⟩
    case round =>
      obtain ⟨k, hk, rfl, rfl, hown, hMr, hSr, hBr⟩ := hrel
      clear hM hB1
      obtain ⟨q0, q1, q2, q3, q4, qf, qz⟩ := hMr.cells
      have hzr := hSr.cells.2.2.2.2.2.2.2.2.2.2
      by_cases hlt : k < card.length
      · have hcl := fun (W : World) (hW : Below wr.heap.size wr W) => rReplay_any m first A cap (card.take k) (-1) W (((hcB.below hBr (Nat.le_refl _)).below hW (by omega)).to (by have := hW.size; omega) |>.take k)
        have hlen : (card.take k).length = k := by rw [List.length_take]; omega
        rw [hlen] at hcl
        simp only [htake.out k] at hcl
        have hkc : k ≤ cap := by omega
        generalize hfk : fold m (St.begun first) (card.take k) = tk at hcl
        have Hfk := Lib.hid hfk
        clear hfk hlen
        go_wp2_with fail
        go_cut [13] (fun s13 wx => ∃ g : Nat, s13 = .pointer (some ⟨g, 0, none⟩) ∧ wr.heap.size ≤ g ∧ StAt wx g tk ∧ Below wr.heap.size wr wx)
        case first =>
          go_region_with (go_at_call 12; refine (hcl _ (by (repeat (first | (with_reducible exact Below.refl _ _) | (with_reducible assumption) | (with_reducible refine b_alloc ?_) | (with_reducible refine b_drew ?_) | (with_reducible refine b_drewN ?_) | (with_reducible refine b_set ?_ (by first | (simp; done) | (dsimp only; omega))) | (with_reducible refine b_call ?_ (by assumption)))))).mono ?_; rintro e w5 ⟨rfl, hb5⟩; obtain ⟨hc5, hf5⟩ := bcell hb5; have hz6 : w.heap.size < w5.heap.size := (by have := hb5.size; simp at this; omega))
          all_goals (go_wp2_with fail; go_meet)
          · refine ⟨w5.heap.size, rfl, ?_, ?_, ?_⟩
            · have := hb5.size
              simp at this
              omega
            · exact alloc_at _ _
            · exact b_alloc (b_call (by (repeat (first | (with_reducible exact Below.refl _ _) | (with_reducible assumption) | (with_reducible refine b_alloc ?_) | (with_reducible refine b_drew ?_) | (with_reducible refine b_drewN ?_) | (with_reducible refine b_set ?_ (by first | (simp; done) | (dsimp only; omega))) | (with_reducible refine b_call ?_ (by assumption))))) hb5)
          all_goals
            refine ⟨wr.heap.size, rfl, Nat.le_refl _, ?_, ?_⟩
            · refine StAt.store (t := St.zero) (StAt.kept (w := _) (alloc_at wr _) ?_) tk
              exact hb5.block _ (by simp)
            · (repeat (first | (with_reducible exact Below.refl _ _) | (with_reducible assumption) | (with_reducible refine b_alloc ?_) | (with_reducible refine b_drew ?_) | (with_reducible refine b_drewN ?_) | (with_reducible refine b_set ?_ (by first | (simp; done) | (dsimp only; omega))) | (with_reducible refine b_call ?_ (by assumption))))
        case rest =>
          obtain ⟨gq, rfl, hgq, hSq, hBq⟩ := hcut
          obtain ⟨y0, y1, y2, y3, y4, y5, y6, y7, y8, yf, yz⟩ := hSq.cells
          clear hcl hcB htake
          have hownc := own_below hown hBq
          have hzc : w1.heap.size + 1 ≤ wc.heap.size := by have := hBq.size; omega
          have hMc := hMr.below hBq
          have hSc := hSr.below hBq
          have hBc := b_call hBr hBq
          go_wp2_with (at_builtin; refine wpList_append_own _ rfl _ _ 33 rfl (w1.heap.size + 1) 3 i0 (.int .i64 0) 1 8 (by kernel_rfl) hi hz0 hz1 hz2 rfl (by decide) _ _ _ rfl (hownc.alloc _) ⟨wc.heap.size, 0, none⟩ 1 1 [.int .i64 tk.hammer] rfl rfl ?c1 ?c2 ?c3 ?c4 ?c5 ?_)
          case c1 => exact cell_one_new _ _ _
          case c2 => intro u hu; simp at hu; subst hu; rfl
          case c3 => unfold maxLen; omega
          case c4 => omega
          case c5 => simp; omega
          intro v' w2 hown2 hgr hnn
          have hb2 := own_grow (hownc.alloc _) hgr (by simp; omega)
          go_wp2_with fail
          go_roundg (card.length - (k + 1))
          · refine ⟨k + 1, by omega, by omega, rfl, ?_, ?_, ?_, ?_⟩
            · rw [List.range_succ, List.map_append, List.map_append, List.map_singleton, List.map_singleton, Hfk.out]
              simpa using hown2
            · exact (hMc.kept (alloc_old _ _ (by omega))).kept (hb2.block _ (by omega))
            · exact (hSc.kept (alloc_old _ _ (by omega))).kept (hb2.block _ (by omega))
            · exact b_below (b_alloc hBc) hb2 (by omega)
          · omega
      · have hkl : k = card.length := by omega
        subst hkl
        obtain ⟨y0, y1, y2, y3, y4, y5, y6, y7, y8, yf, yz⟩ := hSr.cells
        have hh' := hh.out
        by_cases hov : tl.over = true
        · rw [if_pos hov, List.append_nil] at hh'
          rw [← hh'] at hown
          have hhl : (hamsOf m first card).length = card.length := by rw [hh']; simp
          clear hh hh' hcB htake
          rw [hov] at y5
          go_wp2_with fail
          go_ret2
          refine ⟨_, rfl, ?_, hBr⟩
          rw [hhl]
          exact own_mono hown (by omega)
        · rw [if_neg hov] at hh'
          rw [Bool.not_eq_true] at hov
          have hhl : (hamsOf m first card).length = card.length + 1 := by rw [hh']; simp
          have Hh := Lib.hid hh'
          clear hh hh' hcB htake
          rw [hov] at y5
          go_wp2_with (at_builtin; refine wpList_append_own _ rfl _ _ 33 rfl (w1.heap.size + 1) 3 i0 (.int .i64 0) 1 8 (by kernel_rfl) hi hz0 hz1 hz2 rfl (by decide) _ _ _ rfl (hown.alloc _) ⟨wr.heap.size, 0, none⟩ 1 1 [.int .i64 tl.hammer] rfl rfl ?c1 ?c2 ?c3 ?c4 ?c5 ?_)
          case c1 => exact cell_one_new _ _ _
          case c2 => intro u hu; simp at hu; subst hu; rfl
          case c3 => unfold maxLen; omega
          case c4 => omega
          case c5 => simp; omega
          intro v' w2 hown2 hgr hnn
          have hb2 := own_grow (hown.alloc _) hgr (by simp; omega)
          go_wp2_with fail
          go_ret2
          refine ⟨_, rfl, ?_, b_below (b_alloc hBr) hb2 (by omega)⟩
          rw [hhl]
          refine own_mono (B := w1.heap.size + 1) ?_ (by omega)
          rw [Hh.out, List.map_append]
          simpa using hown2
  · have hne : ((replay m first card (-1)).2.2 != 0) = true := by simpa using hok
    have hh := Lib.hid (show hamsOf m first card = [] by simp [hamsOf, hok])
    clear hok
    go_enter Tryd.func14, Tryd.ntmps14
    go_wp2_with (go_at_call 12; refine (hrep _ (by (repeat (first | (with_reducible exact Below.refl _ _) | (with_reducible assumption) | (with_reducible refine b_alloc ?_) | (with_reducible refine b_drew ?_) | (with_reducible refine b_drewN ?_) | (with_reducible refine b_set ?_ (by first | (simp; done) | (dsimp only; omega))) | (with_reducible refine b_call ?_ (by assumption)))))).mono ?_; rintro e w1 ⟨rfl, hb1⟩)
    go_ret2
    exact ⟨_, rfl, by rw [hh.out]; exact World.ownsRow_nil _ _ _ _, by (repeat (first | (with_reducible exact Below.refl _ _) | (with_reducible assumption) | (with_reducible refine b_alloc ?_) | (with_reducible refine b_drew ?_) | (with_reducible refine b_drewN ?_) | (with_reducible refine b_set ?_ (by first | (simp; done) | (dsimp only; omega))) | (with_reducible refine b_call ?_ (by assumption))))⟩
end Go.Proofs.YtenofigclkbbiaaDoor
