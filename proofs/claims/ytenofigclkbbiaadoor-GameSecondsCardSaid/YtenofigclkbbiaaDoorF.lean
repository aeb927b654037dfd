/-
  The iterator of states.
-/
import Derived.RangeFuncNested
import Derived.RangeFuncBound
import Derived.RangeFuncCalls
import Derived.RangeFuncLeaves
import Derived.Shelf.Abstract
import Derived.Shelf.RegionOpen
import Derived.WalkKit
import Derived.OwnWalkIn
import Derived.TacticsInMore
import Derived.LoopNIn
import Derived.LoopIn
import Derived.Test.YtenofigclkbbiaaDoorE
import Derived.Test.YtenofigclkbbiaaDoorRange
set_option linter.unusedVariables false
set_option linter.unusedSimpArgs false
namespace Go.Proofs.YtenofigclkbbiaaDoor
open Go.RowKit Go.Shelf
open Game
attribute [local go_sem] Oper.semAt_some

/-- What a closure of 'states' has captured: boxes of the match, the first team and the card. -/
structure CapAt (w : World) (b : Nat) (m : Mt) (first : Int) (A : Option Addr) (n cap : Nat) : Prop where
  m0 : w.cell? ⟨b, 0, none⟩ = some (.int .i64 m.ends)
  m1 : w.cell? ⟨b, 1, none⟩ = some (.int .i64 m.most)
  m2 : w.cell? ⟨b, 2, none⟩ = some (.int .i64 m.early)
  m3 : w.cell? ⟨b, 3, none⟩ = some (.bool m.change)
  m4 : w.cell? ⟨b, 4, none⟩ = some (.bool m.power)
  f : w.cell? ⟨b + 1, 0, none⟩ = some (.int .i64 first)
  c : w.heap[b + 1 + 1]? = some (.cells #[.slice A n cap] 24 (0, 0))
theorem CapAt.lt {w : World} {b : Nat} {m : Mt} {first : Int} {A : Option Addr} {n cap : Nat} (h : CapAt w b m first A n cap) : b + 1 + 1 < w.heap.size := (Array.getElem?_eq_some_iff.1 h.c).1
theorem cell0 {w : World} {b : Nat} {v : Value} {t : TypeId} (h : w.heap[b]? = some (.cells #[v] t (0, 0))) : w.cell? ⟨b, 0, none⟩ = some v := by simp [World.cell?, h]
theorem CapAt.below {B : Nat} {w W : World} {b : Nat} {m : Mt} {first : Int} {A : Option Addr} {n cap : Nat} (h : CapAt w b m first A n cap) (hb : Below B w W) (hB : b + 1 + 1 < B) : CapAt W b m first A n cap :=
  ⟨(hb.cell (p := ⟨b, 0, none⟩) (by simp only; omega)).trans h.m0, (hb.cell (p := ⟨b, 1, none⟩) (by simp only; omega)).trans h.m1, (hb.cell (p := ⟨b, 2, none⟩) (by simp only; omega)).trans h.m2, (hb.cell (p := ⟨b, 3, none⟩) (by simp only; omega)).trans h.m3, (hb.cell (p := ⟨b, 4, none⟩) (by simp only; omega)).trans h.m4,
    (hb.cell (p := ⟨b + 1, 0, none⟩) (by simp only; omega)).trans h.f, (hb.block _ hB).trans h.c⟩
theorem states_any (m : Mt) (first : Int) (A : Option Addr) (n cap : Nat) (w : World) :
    Calls Tryd.prog 40 #[mval m, .int .i64 first, .slice A n cap] w fun e w' => e = .returned (.func (.func 60) #[] #[.pointer (some ⟨w.heap.size, 0, none⟩), .pointer (some ⟨w.heap.size + 1, 0, none⟩), .pointer (some ⟨w.heap.size + 1 + 1, 0, none⟩)]) ∧
      CapAt w' w.heap.size m first A n cap ∧ w'.heap.size = w.heap.size + 1 + 1 + 1 ∧ Below w.heap.size w w' := by
  have hmf : ∀ (fn : Fn) (first cap : Array Value) (w : World), (Instr.makeFunc fn first cap).run Tryd.prog w = .ok (.func fn first cap) w := fun _ _ _ _ => rfl
  go_enter Tryd.func40, Tryd.ntmps40
  go_wp2
  go_ret
  exact ⟨rfl, by constructor <;> first | (simp [go_sem]; done) | (have := alloc_at ((w.alloc (.cells #[.int .i64 m.ends, .int .i64 m.most, .int .i64 m.early, .bool m.change, .bool m.power] 23)).alloc (.cells #[.int .i64 first] 3)) (.cells #[.slice A n cap] 24 (0, 0)); simpa using this), by simp, by (repeat (first | (with_reducible exact Below.refl _ _) | (with_reducible assumption) | (with_reducible refine b_alloc ?_) | (with_reducible refine b_drew ?_) | (with_reducible refine b_drewN ?_) | (with_reducible refine b_set ?_ (by first | (simp; done) | (dsimp only; omega))) | (with_reducible refine b_call ?_ (by assumption))))⟩
/-- The states ahead of the lines: as many as are reached; the last one with the number of lines, if all are valid. -/
def statesFrom (m : Mt) : St → Nat → List Ln → List (Nat × St)
  | s, k, [] => [(k, s)]
  | s, k, x :: r => (k, s) :: (if fits m s x = true then statesFrom m (behind m s x) (k + 1) r else [])
/-- An index and a standing, as yield takes them. -/
def encs (x : Nat × St) : Array Value := #[.int .i64 x.1, sval x.2]
theorem cell_isCells {w : World} {a : Addr} {v : Value} (h : w.cell? a = some v) : ∃ o : Obj, w.heap[a.block]? = some o ∧ o.isCells = true := by
  unfold World.cell? at h
  cases ho : w.heap[a.block]? with
  | none => simp [ho] at h
  | some o => exact ⟨o, rfl, by cases o <;> simp_all [Obj.isCells]⟩
/-- A row of integers. -/
def IntRow (o : Obj) : Prop := ∃ cs f, o = .cells cs 3 f
/-- What a round that goes on keeps: all cells that lie outside of the caller's own boxes and rows. -/
structure Kp (lo hi : Nat) (W W' : World) : Prop where
  size : W.heap.size ≤ W'.heap.size
  same : ∀ (i : Nat) (o : Obj), W.heap[i]? = some o → o.isCells = true → (i < lo ∨ hi ≤ i ∧ ¬ IntRow o) → W'.heap[i]? = some o
theorem Kp.trans {lo hi : Nat} {A B C : World} (h : Kp lo hi A B) (k : Kp lo hi B C) : Kp lo hi A C := ⟨Nat.le_trans h.size k.size, fun i o h1 h2 h3 => k.same i o (h.same i o h1 h2 h3) h2 h3⟩
theorem Kp.putObj {lo hi : Nat} (W : World) (l : Nat) (o o' : Obj) (h : W.heap[l]? = some o) (ho : o.isCells = false) : Kp lo hi W (W.putObj l o') :=
  ⟨by simp, fun i o2 h1 h2 _ => (World.putObj_heap_other (fun e => by subst e; rw [h] at h1; cases h1; rw [ho] at h2; cases h2)).trans h1⟩
theorem Kp.low {lo hi : Nat} {W W' : World} (h : Kp lo hi W W') {a : Addr} {v : Value} (hc : W.cell? a = some v) (ha : a.block < lo) : W'.cell? a = some v := by
  obtain ⟨o, h1, h2⟩ := cell_isCells hc
  have : W'.heap[a.block]? = W.heap[a.block]? := by rw [h1]; exact h.same _ _ h1 h2 (.inl ha)
  exact (World.cell?_of_block this).trans hc
/-- A card in memory, below a mark. -/
def CardIn (lo : Nat) (w : World) (A : Option Addr) (card : List Ln) : Prop :=
  card.length ≤ 9223372036854775807 ∧ (0 < card.length → ∃ ad, A = some ad ∧ ad.block < lo ∧ ∀ i x, card[i]? = some x →
    w.cell? (ad.add (i * 3)) = some (.int .i64 x.team) ∧ w.cell? ⟨(ad.add (i * 3)).block, (ad.add (i * 3)).off + 1, none⟩ = some (.int .i64 x.points) ∧ w.cell? ⟨(ad.add (i * 3)).block, (ad.add (i * 3)).off + 2, none⟩ = some (.bool x.power))
theorem Card.in_ {w : World} {A : Option Addr} {card : List Ln} (h : Card w A card) : CardIn w.heap.size w A card := h
theorem CardIn.to {lo : Nat} {w : World} {A : Option Addr} {card : List Ln} (h : CardIn lo w A card) (hl : lo ≤ w.heap.size) : Card w A card :=
  ⟨h.1, fun hn => by obtain ⟨ad, e, hb, hc⟩ := h.2 hn; exact ⟨ad, e, by omega, hc⟩⟩
theorem CardIn.keep {lo : Nat} {w W : World} {A : Option Addr} {card : List Ln} (h : CardIn lo w A card) (hk : ∀ a : Addr, a.block < lo → ∀ v, w.cell? a = some v → W.cell? a = some v) : CardIn lo W A card :=
  ⟨h.1, fun hn => by
    obtain ⟨ad, e, hb, hc⟩ := h.2 hn
    refine ⟨ad, e, hb, fun i x hx => ?_⟩
    obtain ⟨c1, c2, c3⟩ := hc i x hx
    exact ⟨hk _ (by rw [add_block]; exact hb) _ c1, hk _ (by simp only [add_block]; exact hb) _ c2, hk _ (by simp only [add_block]; exact hb) _ c3⟩⟩
theorem CardIn.below {lo B : Nat} {w W : World} {A : Option Addr} {card : List Ln} (h : CardIn lo w A card) (hb : Below B w W) (hl : lo ≤ B) : CardIn lo W A card := h.keep fun a ha v hv => (hb.cell (by omega)).trans hv
theorem CardIn.kp {lo hi : Nat} {w W : World} {A : Option Addr} {card : List Ln} (h : CardIn lo w A card) (hb : Kp lo hi w W) : CardIn lo W A card := h.keep fun a ha v hv => hb.low hv ha
/-- An object of the iterator's own: a game's state. -/
def GameObj (o : Obj) : Prop := ∃ cs f, o = .cells cs 81 f
theorem begin_ty (m : Mt) (first : Int) (w : World) : Calls Tryd.prog 61 #[mval m, .int .i64 first] w fun e w' => ∃ g, e = .returned (.pointer (some ⟨g, 0, none⟩)) ∧ w.heap.size ≤ g ∧ GameAt w' g (St.begun first) m ∧ (∃ o, w'.heap[g]? = some o ∧ GameObj o) ∧ Below w.heap.size w w' := by
  go_enter Tryd.func61, Tryd.ntmps61
  go_wp2
  go_ret
  exact ⟨_, rfl, by omega, by constructor <;> simp [go_sem, St.begun], ⟨_, by have := alloc_at (w.alloc (.cells #[.int .i64 m.ends, .int .i64 m.most, .int .i64 m.early, .bool m.change, .bool m.power] 23)) (.cells #[.int .i64 0, .int .i64 0, .int .i64 0, .int .i64 first, .int .i64 (-1), .bool false, .bool false, .bool false, .bool false, .int .i64 m.ends, .int .i64 m.most, .int .i64 m.early, .bool m.change, .bool m.power] 81); simpa using this, _, _, rfl⟩, by (repeat (first | (with_reducible exact Below.refl _ _) | (with_reducible assumption) | (with_reducible refine b_alloc ?_) | (with_reducible refine b_drew ?_) | (with_reducible refine b_drewN ?_) | (with_reducible refine b_set ?_ (by first | (simp; done) | (dsimp only; omega))) | (with_reducible refine b_call ?_ (by assumption))))⟩
theorem grown_none {w w' : World} (h : Below w.heap.size w w') : w.grownBy w' none := ⟨h.os, h.tape, h.output, h.size, fun i hi _ => h.block i hi⟩
set_option maxHeartbeats 4000000 in
set_option maxRecDepth 100000 in
theorem states1_gives (m : Mt) (first : Int) (A : Option Addr) (cap : Nat) (card : List Ln) (b lo hi : Nat) (w0 : World) (hc : CardIn lo w0 A card) (hcap : CapAt w0 b m first A card.length cap) (hlo : lo ≤ hi) (hhi : hi ≤ b)
    (h1 : checkMatch m = true) (h2 : wi first 0 1 = true) (h4 : card.length ≤ 40) :
    Gives GameObj Tryd.prog 60 #[.pointer (some ⟨b, 0, none⟩), .pointer (some ⟨b + 1, 0, none⟩), .pointer (some ⟨b + 1 + 1, 0, none⟩)] encs (Kp lo hi) (statesFrom m (St.begun first) 0 card) w0 := by
  intro l J W hW hJ hY h0
  refine callsIn_of_wp Tryd.func60 rfl trivial ?_ rfl
  simp only [Tryd.ntmps60, List.size_toArray, List.length_cons, List.length_nil, Nat.reduceAdd, Nat.reduceSub, Array.replicate_succ, Array.replicate_zero, List.push_toArray, List.append_toArray, List.nil_append, List.cons_append]
  have hbl := hcap.lt
  have hm8 : m.most ≤ 8 := by simp [checkMatch] at h1; omega
  have hI0 := Inv.begun h2
  have hC := hcap.below hW (by omega)
  have hcW := hc.below hW (by omega)
  have hsz := hW.size
  obtain ⟨m0, m1, m2, m3, m4, cf, cc⟩ := hC
  gi_wp2_with (refine ⟨trivial, rfl, ?_⟩; gi_at_call 61; refine (callsIn_wide.2 (begin_ty m first _)).mono ?_; rintro e w1 ⟨g, rfl, hg, hG, hT, hb1⟩; have cc1 := (hb1.block (b + 1 + 1) (by omega)).trans cc; have ccc1 := cell0 cc1; have hs1 := hb1.size)
  have hJ1 := hJ _ _ _ none h0 (grown_none hb1) (fun r e => by cases e)
  have hc1 := hcW.below hb1 (by omega)
  clear m0 m1 m2 m3 m4 cf cc ccc1
  gi_loopw [13] (fun i wr => ∃ (k : Nat) (t : St) (pre : List (Nat × St)), k ≤ card.length ∧ i = .int .i64 k ∧ Inv t k ∧ statesFrom m (St.begun first) 0 card = pre ++ statesFrom m t k (card.drop k) ∧ J pre wr ∧ GameAt wr g t m ∧ (∃ o, wr.heap[g]? = some o ∧ GameObj o) ∧
      wr.heap[b + 1 + 1]? = some (.cells #[.slice A card.length cap] 24 (0, 0)) ∧ CardIn lo wr A card ∧ w1.heap.size ≤ wr.heap.size)
    (fun i _ => card.length - (intOf i).toNat)
  case atStart => exact ⟨0, St.begun first, [], by omega, rfl, hI0, rfl, hJ1, hG, hT, cc1, hc1, Nat.le_refl _⟩
  case round =>
    clear hG hT cc1 hc1 hJ1 hI0
    obtain ⟨k, t, pre, hk, rfl, hI, hst, hJr, hGr, hTr, hcr, hCr, hsr⟩ := hrel
    have hcc := cell0 hcr
    by_cases hlt : k < card.length
    · obtain ⟨ad, x, rfl, hadb, hx, x0, x1, x2⟩ := (hCr.to (by omega)).at_ hlt
      have hrun : statesFrom m (St.begun first) 0 card = pre ++ (k, t) :: (if fits m t x = true then statesFrom m (behind m t x) (k + 1) (card.drop (k + 1)) else []) := by rw [hst, drop_at hx]; rfl
      obtain ⟨fn, tmps, assign, body, hy, hR⟩ := hY pre (k, t) (wr.alloc (.cells #[.int .i64 x.team, .int .i64 x.points, .bool x.power] 42)) (hJ.alloc _ hJr) ⟨_, hrun⟩
      dsimp only [encs] at hy
      have hglt := hGr.lt
      have hGa := hGr.below (b_alloc (o := .cells #[.int .i64 x.team, .int .i64 x.points, .bool x.power] 42) (Below.refl wr.heap.size wr))
      obtain ⟨g0, g1, g2, g3, g4, g5, g6, g7, g8, g9, g10, g11, g12, g13, gf⟩ := hGr
      have hmf : ∀ (fn : Fn) (first cap : Array Value) (w : World), (Instr.makeFunc fn first cap).run Tryd.prog w = .ok (.func fn first cap) w := fun _ _ _ _ => rfl
      gi_wp2_with fail
      refine ⟨rfl, ?_⟩
      refine hR.mono ?_
      rintro e W2 ⟨rfl, hJ2, hK2⟩
      clear hy hR
      have hG2 : GameAt W2 g t m := by
        obtain ⟨o, ho, cs, f, rfl⟩ := hTr
        have e := (alloc_old wr (.cells #[.int .i64 x.team, .int .i64 x.points, .bool x.power] 42) hglt).trans ho
        exact hGa.keep ((hK2.same g _ e rfl (.inr ⟨by omega, fun ⟨_, _, h⟩ => by simp at h⟩)).trans e.symm)
      have hT2 : ∃ o, W2.heap[g]? = some o ∧ GameObj o := by
        obtain ⟨o, ho, cs, f, rfl⟩ := hTr
        exact ⟨_, hK2.same g _ ((alloc_old _ _ hglt).trans ho) rfl (.inr ⟨by omega, fun ⟨_, _, h⟩ => by simp at h⟩), cs, f, rfl⟩
      have hX2 : LineAt W2 wr.heap.size x := by
        have e := hK2.same wr.heap.size _ (alloc_at wr _) rfl (.inr ⟨by omega, fun ⟨_, _, h⟩ => by simp at h⟩)
        constructor <;> simp [World.cell?, e]
      have hc2 : W2.heap[b + 1 + 1]? = some (.cells #[.slice (some ad) card.length cap] 24 (0, 0)) := hK2.same _ _ ((alloc_old _ _ (Array.getElem?_eq_some_iff.1 hcr).1).trans hcr) rfl (.inr ⟨by omega, fun ⟨_, _, h⟩ => by simp at h⟩)
      have hcc2 := cell0 hc2
      have hC2 : CardIn lo W2 (some ad) card := (hCr.below (b_alloc (o := .cells #[.int .i64 x.team, .int .i64 x.points, .bool x.power] 42) (Below.refl wr.heap.size wr)) (by omega)).kp hK2
      have hs2 : wr.heap.size + 1 ≤ W2.heap.size := by have := hK2.size; simpa using this
      clear g0 g1 g2 g3 g4 g5 g6 g7 g8 g9 g10 g11 g12 g13 gf hGa hTr hCr hcc hcr x0 x1 x2
      gi_wp2_with fail
      refine ⟨trivial, rfl, ?_⟩
      refine (callsIn_wide.2 (wrongs_any g W2)).mono ?_
      rintro e W3 ⟨q, B, rfl, hq, hB, hF3, hB3, hb3⟩
      have hG3 := hG2.below hb3
      have hX3 := hX2.below hb3
      have hs3 := hb3.size
      gi_wp2_with fail
      refine ⟨trivial, rfl, ?_⟩
      refine (callsIn_wide.2 (ContainsFunc_any x wr.heap.size B g q t m W3 hX3 hB3 hF3 hG3 hI.ham)).mono ?_
      rintro e W4 ⟨rfl, hb4⟩
      have hG4 := hG3.below hb4
      have hX4 := hX3.below hb4
      have hs4 := hb4.size
      have hb24 := b_call hb3 hb4
      by_cases hfx : fits m t x = true
      · have hfx' : (!fits m t x) = false := by rw [hfx]; rfl
        obtain ⟨f1, f2, f3, f4, f5⟩ := fits_parts hfx
        have hpl := play_any g t m x W4 hG4 f2 (fun _ => hI.ham f1) (by have := hI.p0; omega) (by have := hI.p1; omega) (by omega) (by have := hI.ends; omega) hI.low
        obtain ⟨x0, x1, x2⟩ := hX4
        clear hX3 hX2 hG3 hF3 hB3 f1 f2 f3 f4 f5 hfx' hmf
        rw [hfx]
        gi_wp2_with fail
        refine ⟨trivial, rfl, ?_⟩
        refine (callsIn_wide.2 hpl).mono ?_
        rintro e W5 ⟨rfl, hG5, hO5⟩
        clear hpl x0 x1 x2
        have hs5 := hO5.size
        have hJ5 : J (pre ++ [(k, t)]) W5 := hJ _ W2 W5 (some g) hJ2 (o_trans (o_below hb24) hO5.grown) (fun r e => by cases e; exact ⟨by omega, hT2⟩)
        have hT5 : ∃ o, W5.heap[g]? = some o ∧ GameObj o := by
          obtain ⟨o, ho, cs, f, rfl⟩ := hT2
          obtain ⟨cs', h'⟩ := hO5.type cs _ f ((hb24.block g hG2.lt).trans ho)
          exact ⟨_, h', cs', f, rfl⟩
        have hc5 : W5.heap[b + 1 + 1]? = some (.cells #[.slice (some ad) card.length cap] 24 (0, 0)) := (hO5.block (b + 1 + 1) (by omega) (fun e => by cases e; omega)).trans ((hb24.block (b + 1 + 1) (by omega)).trans hc2)
        have hC5 : CardIn lo W5 (some ad) card := (hC2.below hb24 (by omega)).keep fun a ha v hv => (World.cell?_of_block (hO5.block a.block (by omega) (fun e => by cases e; omega))).trans hv
        have hI5 := hI.behind hfx hm8
        clear hG4 hG2 hT2 hcc2 hc2 hC2 hb3 hb4 hb24 hO5 hJ2 hK2
        gi_wp2
        go_roundw
        case rel =>
          refine ⟨k + 1, behind m t x, pre ++ [(k, t)], by omega, by go_num, hI5, ?_, hJ5, hG5, hT5, hc5, hC5, by omega⟩
          rw [hrun, if_pos hfx]; simp
        case measure => simp [intOf]; omega
      · have hfx' : fits m t x = false := Bool.eq_false_iff.2 hfx
        have hJ4 : J (pre ++ [(k, t)]) W4 := hJ _ W2 W4 none hJ2 (grown_none hb24) (fun r e => by cases e)
        have hrun' := Lib.hid hrun
        clear hrun
        rw [hfx']
        gi_wp2
        refine bodyPost_ret (results_none rfl _ _ _) rfl ?_
        refine ⟨⟨_, rfl⟩, ?_⟩
        rw [hrun'.out, hfx']
        exact hJ4
    · obtain rfl : k = card.length := by omega
      have hrun : statesFrom m (St.begun first) 0 card = pre ++ [(card.length, t)] := by rw [hst, List.drop_length]; rfl
      obtain ⟨fn, tmps, assign, body, hy, hR⟩ := hY pre (card.length, t) wr.drew (hJ _ _ _ none hJr (grown_none (b_drew (Below.refl _ _))) (fun r e => by cases e)) ⟨[], hrun⟩
      dsimp only [encs] at hy
      obtain ⟨g0, g1, g2, g3, g4, g5, g6, g7, g8, g9, g10, g11, g12, g13, gf⟩ := hGr
      have hfo : Tryd.prog.follows Departure.mixedOrders = true := by kernel_rfl
      have hrun' := Lib.hid hrun
      clear hrun hst
      gi_wp2
      gi_region_with_o (refine ⟨rfl, ?_⟩; refine hR.mono ?_; rintro e W2 ⟨rfl, hJ2, hK2⟩)
      all_goals
        gi_wp2
        first | go_end0 | refine bodyPost_ret (results_none rfl _ _ _) rfl ?_
        exact ⟨⟨_, rfl⟩, by rw [hrun'.out]; exact hJ2⟩
end Go.Proofs.YtenofigclkbbiaaDoor
