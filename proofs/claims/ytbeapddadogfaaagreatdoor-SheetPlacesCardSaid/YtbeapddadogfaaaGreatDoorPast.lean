/-
  A region that draws its order, whose operations only read, and whose callees make memory of their own and turn nothing: walked once, in the order of the text.
-/
import Derived.Test.YtbeapddadogfaaaGreatDoorBase
import Derived.BigQuiet
set_option linter.unusedVariables false
namespace Go.Proofs.YtbeapddadogfaaaGreatDoor
open Go.RowKit

/-- A world that has come behind w: what lay lies as it lay. -/
structure Past (w : World) : Type where
  W : World
  h : Below w.heap.size w W
instance (w : World) : Inhabited (Past w) := ⟨⟨w, Below.refl _ _⟩⟩
theorem past_cell {w : World} (p : Past w) (b o : Nat) (h : b < w.heap.size) : p.W.cell? ⟨b, o, none⟩ = w.cell? ⟨b, o, none⟩ := p.h.cell (p := ⟨b, o, none⟩) h
theorem past_call {P : Program} {f : FuncId} {args : Array Value} {w : World} {v : Value} (p : Past w) (h : Calls P f args p.W fun e w' => e = .returned v ∧ Below p.W.heap.size p.W w') :
    Calls P f args p.W fun e w'' => e = .returned v ∧ ∃ q : Past w, w'' = q.W := h.mono fun _ w' ⟨he, hb⟩ => ⟨he, ⟨w', b_call p.h hb⟩, rfl⟩
theorem past_same {P : Program} {f : FuncId} {args : Array Value} {w : World} {v : Value} (p : Past w) (h : Calls P f args p.W fun e w' => e = .returned v ∧ p.W = w') :
    Calls P f args p.W fun e w'' => e = .returned v ∧ ∃ q : Past w, w'' = q.W := h.mono fun _ w' ⟨he, hb⟩ => ⟨he, p, hb.symm⟩
theorem wp_region_past {P : Program} {id : Nat} {Q : Exit → Act → World → Prop} {a : Act} {w : World} {l : List Oper} (hm : P.follows .mixedOrders = true) (hB : Region.lexB .any l.toArray = true)
    (h : wpQuiet P l.toArray (fun w' => ∃ p : Past w, w' = p.W) (fun a' => ∀ wq, Below w.heap.size w wq → Q .normal a' wq) l a) : (Code.region id l.toArray true).wp P Q a w := by
  have e : (fun a' : Act => ∀ wq, Below w.heap.size w wq → Q .normal a' wq) = (fun a' => ∀ w', (∃ p : Past w, w' = p.W) → Q .normal a' w') := by
    funext a'
    apply propext
    exact ⟨fun h w' ⟨p, hp⟩ => by rw [hp]; exact h p.W p.h, fun h wq hq => h wq ⟨⟨wq, hq⟩, rfl⟩⟩
  rw [e] at h
  exact wp_region_quiet (C := fun w' => ∃ p : Past w, w' = p.W) hm hB ⟨⟨_, b_drew (Below.refl _ w)⟩, rfl⟩ (by simpa using h)
end Go.Proofs.YtbeapddadogfaaaGreatDoor
