/-
  The iterator of the stones in the house.
-/
import Derived.RangeFuncNested
import Derived.RangeFuncBound
import Derived.RangeFuncCalls
import Derived.RangeFuncLeaves
import Derived.Shelf.Abstract
import Derived.Shelf.RegionOpen
import Derived.WalkKit
import Derived.OwnWalkIn
import Derived.TacticsInMore
import Derived.LoopNIn
import Derived.LoopIn
import Derived.Test.YtbeapddadogfaaaGreatDoorH
import Derived.Test.YtbeapddadogfaaaGreatDoorRange
set_option linter.unusedVariables false
set_option linter.unusedSimpArgs false
namespace Go.Proofs.YtbeapddadogfaaaGreatDoor
open Go.RowKit Go.Shelf
open Sheet
attribute [local go_sem] Oper.semAt_some

/-- Stones in memory, below a mark. -/
def StonesIn (lo : Nat) (w : World) (A : Option Addr) (l : List Sn) : Prop :=
  l.length ≤ 1099511627776 ∧ (0 < l.length → ∃ ad, A = some ad ∧ ad.block < lo ∧ ∀ i s, l[i]? = some s → SnAt w (ad.add (i * 4)) s)
theorem Stones.in_ {w : World} {A : Option Addr} {l : List Sn} (h : Stones w A l) : StonesIn w.heap.size w A l := h
theorem StonesIn.to {lo : Nat} {w : World} {A : Option Addr} {l : List Sn} (h : StonesIn lo w A l) (hl : lo ≤ w.heap.size) : Stones w A l :=
  ⟨h.1, fun hn => by obtain ⟨ad, e, hb, hc⟩ := h.2 hn; exact ⟨ad, e, by omega, hc⟩⟩
theorem StonesIn.below {lo B : Nat} {w W : World} {A : Option Addr} {l : List Sn} (h : StonesIn lo w A l) (hb : Below B w W) (hl : lo ≤ B) : StonesIn lo W A l :=
  ⟨h.1, fun hn => by
    obtain ⟨ad, e, hlt, hc⟩ := h.2 hn
    exact ⟨ad, e, hlt, fun i s hs => (hc i s hs).below hb (by rw [add_block]; omega)⟩⟩
/-- The stones in the house, with their indices. -/
def hz : Nat → List Sn → List (Nat × Sn)
  | _, [] => []
  | i, s :: r => if s.housed = true then (i, s) :: hz (i + 1) r else hz (i + 1) r
def encs (x : Nat × Sn) : Array Value := #[.int .i64 x.1, sval x.2]
theorem grown_none {w w' : World} (h : Below w.heap.size w w') : w.grownBy w' none := ⟨h.os, h.tape, h.output, h.size, fun i hi _ => h.block i hi⟩
theorem drop_at {α : Type} {l : List α} {k : Nat} {x : α} (h : l[k]? = some x) : l.drop k = x :: l.drop (k + 1) := by
  rw [List.drop_eq_getElem_cons (List.getElem?_eq_some_iff.1 h).1, (List.getElem?_eq_some_iff.1 h).2]
theorem cell0 {w : World} {b : Nat} {v : Value} {t : TypeId} (h : w.heap[b]? = some (.cells #[v] t (0, 0))) : w.cell? ⟨b, 0, none⟩ = some v := by simp [World.cell?, h]
theorem housed_any (A : Option Addr) (n cap : Nat) (w : World) :
    Calls Tryz.prog 82 #[.slice A n cap] w fun e w' => e = .returned (.func (.func 98) #[] #[.pointer (some ⟨w.heap.size, 0, none⟩)]) ∧ w'.cell? ⟨w.heap.size, 0, none⟩ = some (.slice A n cap) ∧ w'.heap.size = w.heap.size + 1 ∧ Below w.heap.size w w' := by
  have hmf : ∀ (fn : Fn) (first cap : Array Value) (w : World), (Instr.makeFunc fn first cap).run Tryz.prog w = .ok (.func fn first cap) w := fun _ _ _ _ => rfl
  go_enter Tryz.func82, Tryz.ntmps82
  go_wp2
  go_ret
  exact ⟨rfl, by simp [go_sem], by simp, by (repeat (first | (with_reducible exact Below.refl _ _) | (with_reducible assumption) | (with_reducible refine b_alloc ?_) | (with_reducible refine b_drew ?_) | (with_reducible refine b_drewN ?_) | (with_reducible refine b_set ?_ (by first | (simp; done) | (dsimp only; omega))) | (with_reducible refine b_call ?_ (by assumption))))⟩
set_option maxHeartbeats 4000000 in
set_option maxRecDepth 100000 in
theorem housed1_gives (A : Option Addr) (cap : Nat) (l : List Sn) (b lo : Nat) (w0 : World) (hS : StonesIn lo w0 A l) (hv : ∀ s ∈ l, vplace s.x s.y = true) (hbox : w0.cell? ⟨b, 0, none⟩ = some (.slice A l.length cap)) (hlo : lo ≤ w0.heap.size) :
    Gives (fun _ => False) Tryz.prog 98 #[.pointer (some ⟨b, 0, none⟩)] encs (Below lo) (hz 0 l) w0 := by
  intro lid J W hW hJ hY h0
  refine callsIn_of_wp Tryz.func98 rfl trivial ?_ rfl
  simp only [Tryz.ntmps98, List.size_toArray, List.length_cons, List.length_nil, Nat.reduceAdd, Nat.reduceSub, Array.replicate_succ, Array.replicate_zero, List.push_toArray, List.append_toArray, List.nil_append, List.cons_append]
  have hbl := World.block_lt_of_cell? w0 _ hbox
  have hbW := (hW.cell (p := ⟨b, 0, none⟩) hbl).trans hbox
  have hSW := hS.below hW hlo
  have hsz := hW.size
  have hlen := hS.1
  clear hbox hS
  gi_wp2
  gi_loopw [7] (fun i wr => ∃ (k : Nat) (pre : List (Nat × Sn)), k ≤ l.length ∧ i = .int .i64 k ∧ Hid (hz 0 l = pre ++ hz k (l.drop k)) ∧ J pre wr ∧ StonesIn lo wr A l ∧ W.heap.size ≤ wr.heap.size)
    (fun i _ => l.length - (intOf i).toNat)
  case atStart => exact ⟨0, [], by omega, rfl, rfl, h0, hSW, Nat.le_refl _⟩
  case round =>
    clear hSW hbW
    obtain ⟨k, pre, hk, rfl, hst, hJr, hSr, hsr⟩ := hrel
    by_cases hlt : k < l.length
    · obtain ⟨ad, s, rfl, hadb, hs, c0, c1, c2, c3⟩ := (hSr.to (by omega)).at_ hlt
      have hvs := hv s (List.mem_of_getElem? hs)
      have hzn := fun w => zone_any s.x s.y w hvs
      have hst' : hz 0 l = pre ++ (if s.housed = true then (k, s) :: hz (k + 1) (l.drop (k + 1)) else hz (k + 1) (l.drop (k + 1))) := by rw [hst.out, drop_at hs]; rfl
      obtain ⟨z, hze⟩ : ∃ z, z = zone s.x s.y := ⟨_, rfl⟩
      have hho : s.housed = (z == 2) := by rw [hze]; rfl
      rw [← hze] at hzn
      have hznH := Lib.hid hzn
      have hstH := Lib.hid hst'
      have hsH := Lib.hid hs
      clear hze hst' hzn hs hst
      gi_wp2_with fail
      refine ⟨trivial, rfl, ?_⟩
      refine (callsIn_wide.2 (hznH.out _)).mono ?_
      rintro e w1 ⟨rfl, hb1⟩
      have hbr : Below wr.heap.size wr w1 := b_call (b_alloc (Below.refl _ _)) hb1
      obtain ⟨hc1, hf1⟩ := bcell hb1
      have hs1 := hbr.size
      have hs1' : wr.heap.size < w1.heap.size := by have := hb1.size; simp at this; omega
      have hJ1 := hJ _ _ _ none hJr (grown_none hbr) (fun r e => by cases e)
      have hS1 := hSr.below hbr (by omega)
      clear hJr hSr
      by_cases hz2 : z = 2
      · subst hz2
        have hst2 : Hid (hz 0 l = pre ++ (k, s) :: hz (k + 1) (l.drop (k + 1))) := hstH.out.trans (by rw [if_pos (by rw [hho]; rfl)])
        obtain ⟨fn, tmps, assign, body, hy, hR⟩ := hY pre (k, s) w1 hJ1 ⟨_, hst2.out⟩
        dsimp only [encs] at hy
        have hst3 := hst2
        clear hst2 hho hstH
        gi_wp2_with fail
        refine ⟨rfl, ?_⟩
        refine hR.mono ?_
        rintro e W2 ⟨rfl, hJ2, hK2⟩
        clear hy hR
        have hS2 : StonesIn lo W2 (some ad) l := hS1.below hK2 (Nat.le_refl _)
        have hs2 := hK2.size
        have hs3 : W.heap.size ≤ W2.heap.size := by omega
        have hst4 : Hid (hz 0 l = (pre ++ [(k, s)]) ++ hz (k + 1) (l.drop (k + 1))) := hst3.out.trans (by simp)
        clear hS1 c0 c1 c2 c3 hc1 hf1 hb1 hbr
        gi_wp2
        go_roundw
        case rel => exact ⟨k + 1, pre ++ [(k, s)], by omega, by go_num, hst4, hJ2, hS2, hs3⟩
        case measure => simp [intOf]; omega
      · have hz2' : (z == 2) = false := by simpa using hz2
        have hst2 : Hid (hz 0 l = pre ++ hz (k + 1) (l.drop (k + 1))) := hstH.out.trans (by rw [if_neg (by rw [hho, hz2']; decide)])
        clear hho hstH
        have hs3 : W.heap.size ≤ w1.heap.size := by omega
        gi_wp2_with fail
        refine ⟨fun _ h => (by cases h), ?_⟩
        clear c0 c1 c2 c3 hc1 hf1 hb1 hbr
        gi_wp2
        go_roundw
        case rel => exact ⟨k + 1, pre, by omega, by go_num, hst2, hJ1, hS1, hs3⟩
        case measure => simp [intOf]; omega
    · obtain rfl : k = l.length := by omega
      have hfin : Hid (hz 0 l = pre) := hst.out.trans (by rw [List.drop_length]; simp [hz])
      gi_wp2
      go_end0
      exact ⟨⟨_, rfl⟩, by rw [hfin.out]; exact hJr⟩
end Go.Proofs.YtbeapddadogfaaaGreatDoor
