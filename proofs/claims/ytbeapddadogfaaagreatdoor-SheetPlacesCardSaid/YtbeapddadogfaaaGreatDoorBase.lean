/-
  Small lemmas that the walks of this seat share: worlds that keep what lay, and how a call's world is read.
-/
import Derived.Test.YtbeapddadogfaaaGreatDoorProg
import Derived.WalkKit
import Derived.WalkLawsBesides
import Derived.WalkSpells
import Derived.Lib.Hide
import Derived.BigGuardPart
import Derived.BigQuiet
import Derived.Deep.QuietTactic
import Derived.StillTailTactics
namespace Go.Proofs.YtbeapddadogfaaaGreatDoor
open Go.RowKit

/-- What lay below a mark reads as before. -/
theorem bcell {W w1 : World} (hb : Below W.heap.size W w1) : (∀ b o, b < W.heap.size → w1.cell? ⟨b, o, none⟩ = W.cell? ⟨b, o, none⟩) ∧ (∀ b o, b < W.heap.size → w1.frozen? ⟨b, o, none⟩ = W.frozen? ⟨b, o, none⟩) :=
  ⟨fun b o h => hb.cell (p := ⟨b, o, none⟩) h, fun b o h => hb.frozen (p := ⟨b, o, none⟩) h⟩
theorem b_alloc {w W : World} (h : Below w.heap.size w W) {o : Obj} : Below w.heap.size w (W.alloc o) := h.alloc h.size o
theorem b_set {w W : World} {a : Addr} {v : Value} (h : Below w.heap.size w W) (hp : w.heap.size ≤ a.block) : Below w.heap.size w (W.setCell a v) := h.setCell hp v
theorem b_drew {w W : World} (h : Below w.heap.size w W) : Below w.heap.size w W.drew := ⟨h.os, h.tape, h.output, h.size, h.block⟩
theorem b_drewN {w W : World} {n : Nat} (h : Below w.heap.size w W) : Below w.heap.size w (W.drewN n) := ⟨h.os, h.tape, h.output, h.size, h.block⟩
theorem b_call {w W W' : World} (h : Below w.heap.size w W) (k : Below W.heap.size W W') : Below w.heap.size w W' :=
  h.trans ⟨k.os, k.tape, k.output, k.size, fun i hi => k.block i (Nat.lt_of_lt_of_le hi h.size)⟩
theorem o_refl {w : World} {g : Nat} : w.grownBy w (some g) := World.grownBy.refl w _
theorem o_alloc {a w : World} {g : Nat} {o : Obj} (h : a.grownBy w (some g)) : a.grownBy (w.alloc o) (some g) :=
  ⟨h.os, h.tape, h.output, Nat.le_trans h.size (by simp), fun i hi hne => (Below.heap_alloc w o i (Nat.lt_of_lt_of_le hi h.size)).trans (h.block i hi hne)⟩
theorem o_drew {a w : World} {g : Nat} (h : a.grownBy w (some g)) : a.grownBy w.drew (some g) := ⟨h.os, h.tape, h.output, h.size, h.block⟩
theorem o_drewN {a w : World} {g n : Nat} (h : a.grownBy w (some g)) : a.grownBy (w.drewN n) (some g) := ⟨h.os, h.tape, h.output, h.size, h.block⟩
theorem o_set {a w : World} {g : Nat} {p : Addr} {u : Value} (h : a.grownBy w (some g)) (hp : p.block = g ∨ a.heap.size ≤ p.block) : a.grownBy (w.setCell p u) (some g) :=
  ⟨h.os, h.tape, h.output, by simpa [World.setCell] using h.size, fun i hi hne => (Below.heap_setCell w p u i (by
    rintro rfl
    rcases hp with hp | hp
    · exact hne (by rw [hp])
    · omega)).trans (h.block i hi hne)⟩
theorem o_below {a w : World} {g : Nat} (h : Below a.heap.size a w) : a.grownBy w (some g) := ⟨h.os, h.tape, h.output, h.size, fun i hi _ => h.block i hi⟩
theorem o_trans {a b c : World} {g : Nat} (h : a.grownBy b (some g)) (k : b.grownBy c (some g)) : a.grownBy c (some g) :=
  ⟨k.os.trans h.os, k.tape.trans h.tape, k.output.trans h.output, Nat.le_trans h.size k.size, fun i hi hne => (k.block i (Nat.lt_of_lt_of_le hi h.size) hne).trans (h.block i hi hne)⟩
theorem o_call {a b c : World} {g : Nat} (h : a.grownBy b (some g)) (k : Below b.heap.size b c) : a.grownBy c (some g) := o_trans h (o_below k)
/-- What is written lies at or beyond a mark: below it nothing has turned. -/
theorem b_grown {w W W' : World} {g : Nat} (h : Below w.heap.size w W) (k : W.grownBy W' (some g)) (hg : w.heap.size ≤ g) : Below w.heap.size w W' := h.grown k h.size (fun j e => by cases e; exact hg)
theorem o_cell {a w : World} {g : Nat} (h : a.grownBy w (some g)) : (∀ b o, b < a.heap.size → b ≠ g → w.cell? ⟨b, o, none⟩ = a.cell? ⟨b, o, none⟩) ∧ (∀ b o, b < a.heap.size → b ≠ g → w.frozen? ⟨b, o, none⟩ = a.frozen? ⟨b, o, none⟩) := by
  refine ⟨fun b o hb hn => World.cell?_of_block (h.block b hb (fun e => hn (by cases e; rfl))), fun b o hb hn => ?_⟩
  have := h.block b hb (fun e => hn (by cases e; rfl))
  simp only [World.frozen?, this]
theorem alloc_at (w : World) (o : Obj) : (w.alloc o).heap[w.heap.size]? = some o := by
  show (w.heap.push o)[w.heap.size]? = some o
  simp
theorem alloc_old (w : World) (o : Obj) {k : Nat} (h : k < w.heap.size) : (w.alloc o).heap[k]? = w.heap[k]? := Below.heap_alloc w o k h
end Go.Proofs.YtbeapddadogfaaaGreatDoor
