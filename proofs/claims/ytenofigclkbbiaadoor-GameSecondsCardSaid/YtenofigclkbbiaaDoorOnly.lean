/-
  A world in which one block has turned, its element type kept, and new blocks have come.
-/
import Derived.Test.YtenofigclkbbiaaDoorBase
set_option linter.unusedVariables false
namespace Go.Proofs.YtenofigclkbbiaaDoor
open Go.RowKit

/-- Block g's cells may have turned; all else that lay lies as it lay. -/
structure OnlyAt (a w : World) (g : Nat) : Prop where
  grown : a.grownBy w (some g)
  type : ∀ cs t f, a.heap[g]? = some (.cells cs t f) → ∃ cs', w.heap[g]? = some (.cells cs' t f)
theorem OnlyAt.size {a w : World} {g : Nat} (h : OnlyAt a w g) : a.heap.size ≤ w.heap.size := h.grown.size
theorem OnlyAt.block {a w : World} {g : Nat} (h : OnlyAt a w g) : ∀ i, i < a.heap.size → some i ≠ some g → w.heap[i]? = a.heap[i]? := h.grown.block
theorem n_refl {w : World} {g : Nat} : OnlyAt w w g := ⟨o_refl, fun cs t f h => ⟨cs, h⟩⟩
theorem n_alloc {a w : World} {g : Nat} {o : Obj} (h : OnlyAt a w g) : OnlyAt a (w.alloc o) g :=
  ⟨o_alloc h.grown, fun cs t f e => by
    obtain ⟨cs', e'⟩ := h.type cs t f e
    exact ⟨cs', (alloc_old w o (Array.getElem?_eq_some_iff.1 e').1).trans e'⟩⟩
theorem n_drew {a w : World} {g : Nat} (h : OnlyAt a w g) : OnlyAt a w.drew g := ⟨o_drew h.grown, h.type⟩
theorem n_drewN {a w : World} {g n : Nat} (h : OnlyAt a w g) : OnlyAt a (w.drewN n) g := ⟨o_drewN h.grown, h.type⟩
theorem n_set {a w : World} {g : Nat} {p : Addr} {u : Value} (h : OnlyAt a w g) (hp : p.block = g ∨ a.heap.size ≤ p.block) : OnlyAt a (w.setCell p u) g :=
  ⟨o_set h.grown hp, fun cs t f e => by
    obtain ⟨cs', e'⟩ := h.type cs t f e
    by_cases hg : g = p.block
    · subst hg
      refine ⟨if p.spot.isSome then cs' else cs'.setIfInBounds p.off u, ?_⟩
      simp only [World.setCell, Array.getElem?_modify, e', if_true, Option.map_some]
    · exact ⟨cs', (Below.heap_setCell w p u g hg).trans e'⟩⟩
theorem n_trans {a b c : World} {g : Nat} (h : OnlyAt a b g) (k : OnlyAt b c g) : OnlyAt a c g :=
  ⟨o_trans h.grown k.grown, fun cs t f e => by
    obtain ⟨cs', e'⟩ := h.type cs t f e
    exact k.type cs' t f e'⟩
theorem n_call {a b c : World} {g : Nat} (h : OnlyAt a b g) (k : Below b.heap.size b c) : OnlyAt a c g :=
  ⟨o_call h.grown k, fun cs t f e => by
    obtain ⟨cs', e'⟩ := h.type cs t f e
    exact ⟨cs', (k.block g (Array.getElem?_eq_some_iff.1 e').1).trans e'⟩⟩
/-- What is written lies at or beyond a mark: below it nothing has turned. -/
theorem b_only {w W W' : World} {g : Nat} (h : Below w.heap.size w W) (k : OnlyAt W W' g) (hg : w.heap.size ≤ g) : Below w.heap.size w W' := b_grown h k.grown hg
theorem n_cell {a w : World} {g : Nat} (h : OnlyAt a w g) : (∀ b o, b < a.heap.size → b ≠ g → w.cell? ⟨b, o, none⟩ = a.cell? ⟨b, o, none⟩) ∧ (∀ b o, b < a.heap.size → b ≠ g → w.frozen? ⟨b, o, none⟩ = a.frozen? ⟨b, o, none⟩) := o_cell h.grown
end Go.Proofs.YtenofigclkbbiaaDoor
