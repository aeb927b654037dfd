/-
  The board in plain words, and small lemmas on worlds for its walks.
-/
import Derived.Test.YtenofigclkbbiaaDoorV
import Derived.Lib.Join
import Derived.Lib.SmallJoins
import Derived.Lib.OthersKept
set_option linter.unusedVariables false
set_option linter.unusedSimpArgs false
namespace Go.Proofs.YtenofigclkbbiaaDoor
namespace Game
/-- A team's row of the board, as its parts. -/
def boardParts (first con t pts : Int) (cs : List (List UInt8)) : List (List UInt8) :=
  ([if t = 0 then 114 else 121, if first = t then 42 else 32] :: cs) ++ [[61], Lib.decDigits pts.toNat] ++ (if con = t then [[120]] else [])
/-- A team's row of the board. -/
def boardRow (first con t pts : Int) (cs : List (List UInt8)) : List UInt8 :=
  [if t = 0 then 114 else 121, if first = t then 42 else 32] ++ Lib.joinTail [32] cs ++ ([32, 61, 32] ++ Lib.decDigits pts.toNat) ++ (if con = t then [32, 120] else []) ++ [10]
theorem boardRow_join (first con t pts : Int) (cs : List (List UInt8)) : Lib.join (boardParts first con t pts cs) [32] ++ [10] = boardRow first con t pts cs := by
  simp only [boardParts, List.cons_append, Lib.join_cons, boardRow]
  by_cases h : con = t <;> simp [Lib.joinTail, h]
def boardText (m : Mt) (first : Int) (card : List Ln) (con : Int) : List UInt8 :=
  boardRow first con 0 (replay m first card con).1.p0 (columns 0 card (hamsOf m first card)) ++ boardRow first con 1 (replay m first card con).1.p1 (columns 1 card (hamsOf m first card))
def board (m : Mt) (first : Int) (card : List Ln) (con : Int) : List UInt8 := if (replay m first card con).2.2 = 0 then boardText m first card con else []
/-- What holds where the standing is told. -/
theorem walk_fits {m : Mt} {s t : St} {k : Nat} {l : List Ln} (h : walk m s k l = (t, none)) : ∀ x ∈ l, ∃ u, fits m u x = true := by
  induction l generalizing s k with
  | nil => simp
  | cons x r ih =>
    by_cases hf : fits m s x = true
    · rw [walk_step hf] at h
      intro y hy
      rcases List.mem_cons.1 hy with rfl | hy
      · exact ⟨s, hf⟩
      · exact ih h y hy
    · rw [walk_stop (Bool.eq_false_iff.2 hf)] at h
      cases h
theorem walk_inv {m : Mt} {s t : St} {k : Nat} {l : List Ln} (hm : m.most ≤ 8) (hi : Inv s k) (h : walk m s k l = (t, none)) : Inv t (k + l.length) := by
  induction l generalizing s k with
  | nil => simp [walk] at h; subst h; simpa using hi
  | cons x r ih =>
    by_cases hf : fits m s x = true
    · rw [walk_step hf] at h
      have := ih (hi.behind hf hm) h
      rw [List.length_cons]
      rwa [show k + (r.length + 1) = k + 1 + r.length by omega]
    · rw [walk_stop (Bool.eq_false_iff.2 hf)] at h
      cases h
theorem replay_good {m : Mt} {first con : Int} {card : List Ln} (h : (replay m first card con).2.2 = 0) :
    card.length ≤ 40 ∧ (0 ≤ (replay m first card con).1.p0 ∧ (replay m first card con).1.p0 ≤ 320) ∧ (0 ≤ (replay m first card con).1.p1 ∧ (replay m first card con).1.p1 ≤ 320) ∧ (∀ x ∈ card, 0 ≤ x.points ∧ x.points ≤ 8) ∧ card.length ≤ (hamsOf m first card).length := by
  by_cases h1 : checkMatch m = true
  · by_cases h2 : wi first 0 1 = true
    · by_cases h3 : wi con (-1) 1 = true
      · by_cases h4 : 40 < card.length
        · simp [replay, h1, h2, h3, h4] at h
        · have hm8 : m.most ≤ 8 := by simp [checkMatch] at h1; omega
          rcases hw : walk m (St.begun first) 0 card with ⟨t, (_ | i)⟩
          · have hI := walk_inv hm8 (Inv.begun h2) hw
            have hp0 := hI.p0
            have hp1 := hI.p1
            have hle : card.length ≤ 40 := by omega
            have hok : (replay m first card (-1)).2.2 = 0 := by simp [replay, h1, h2, h4, hw, wi_none]
            have hx : ∀ x ∈ card, 0 ≤ x.points ∧ x.points ≤ 8 := by
              intro x hx
              obtain ⟨u, hu⟩ := walk_fits hw x hx
              obtain ⟨f1, f2, f3, f4, f5⟩ := fits_parts hu
              by_cases hx1 : x.team = -1
              · have := f3 hx1; omega
              · have := f4 hx1; omega
            have hl : card.length ≤ (hamsOf m first card).length := by simp [hamsOf, hok]
            have hs : (replay m first card con).1.p0 = t.p0 ∧ (replay m first card con).1.p1 = t.p1 := by
              by_cases hc : con = -1
              · simp [replay, h1, h2, h3, h4, hw, hc, wi_none]
              · by_cases ho : t.over = true ∨ t.ends < m.early
                · simp [replay, h1, h2, h3, h4, hw, hc, ho] at h
                · simp [replay, h1, h2, h3, h4, hw, hc, ho, St.ended]
            exact ⟨hle, by rw [hs.1]; omega, by rw [hs.2]; omega, hx, hl⟩
          · simp [replay, h1, h2, h3, h4, hw] at h
      · simp [replay, h1, h2, h3] at h
    · simp [replay, h1, h2] at h
  · simp [replay, h1] at h
theorem joinTail_len {cs : List (List UInt8)} (h : ∀ c ∈ cs, c.length ≤ 3) : (Lib.joinTail [32] cs).length ≤ 4 * cs.length := by
  induction cs with
  | nil => simp [Lib.joinTail]
  | cons c r ih =>
    have h1 := h c (by simp)
    have h2 := ih (fun x hx => h x (by simp [hx]))
    simp only [Lib.joinTail, List.map_cons, List.flatten_cons, List.length_append, List.length_cons, List.length_nil] at h2 ⊢
    omega
theorem columns_le {t : Int} {card : List Ln} {hs : List Int} (h : ∀ x ∈ card, 0 ≤ x.points ∧ x.points ≤ 8) : ∀ c ∈ columns t card hs, c.length ≤ 3 := by
  intro c hc
  obtain ⟨i, hi⟩ := List.mem_iff_getElem?.1 hc
  rw [columns, List.getElem?_zipWith] at hi
  cases hx : card[i]? with
  | none => simp [hx] at hi
  | some x =>
    cases hh : hs[i]? with
    | none => simp [hx, hh] at hi
    | some q =>
      simp [hx, hh] at hi
      subst hi
      have := h x (List.mem_of_getElem? hx)
      exact column_len t x q (by omega)
theorem boardRow_len {first con t pts : Int} {cs : List (List UInt8)} (h : ∀ c ∈ cs, c.length ≤ 3) (hn : cs.length ≤ 40) (hp : 0 ≤ pts ∧ pts ≤ 320) : (boardRow first con t pts cs).length ≤ 200 := by
  have h1 := joinTail_len h
  have h2 := dec_len3 (n := pts.toNat) (by omega)
  have h3 : (if con = t then [32, 120] else ([] : List UInt8)).length ≤ 2 := by split <;> simp
  simp only [boardRow, List.length_append, List.length_cons, List.length_nil]
  omega
end Game
open Go.RowKit
open Game
/-- The table of powers stands in memory. -/
def Tab (w : World) : Prop := Lib.TabIs Tryd.prog w "internal/strconv.uint64pow10" .u64 Lib.pow10Tab
theorem Tab.below {B : Nat} {w W : World} (h : Tab w) (hb : Below B w W) (hB : w.heap.size ≤ B) : Tab W := Go.Joins.var_stays (g := 0) (by kernel_rfl) h hb hB
theorem below_grow (w : World) (k : Nat) (os : Array Obj) : Below w.heap.size w (Sort.grow (w.drewN k) os) :=
  ⟨rfl, rfl, rfl, by simp [Sort.grow, World.drewN], fun i hi => by show (w.heap ++ os)[i]? = w.heap[i]?; rw [Array.getElem?_append_left hi]⟩
theorem itoa_any (n : Nat) (w : World) (hn : n < 1000) (h : Tab w) : Calls Tryd.prog 48 #[.int .i64 n] w fun e w' => e = .returned (tval (Lib.decDigits n)) ∧ Below w.heap.size w w' := by
  refine (Tryd.strconv_Itoa n (by omega) (by omega) w h).mono ?_
  rintro e w' ⟨rfl, k, os, rfl⟩
  exact ⟨by simp [Lib.itoa], below_grow w k os⟩
theorem builder_below {B b : Nat} {bs : List Value} {w W : World} (h : Lib.IsBuilderF 89 5 B b bs w) (hb : Below w.heap.size w W) : Lib.IsBuilderF 89 5 B b bs W := by
  have key : ∀ p, Lib.BuilderAtF 89 5 B b p bs w → Lib.BuilderAtF 89 5 B b p bs W := by
    rintro p ⟨hB, v, hc, hown, hne⟩
    refine ⟨hB, v, (hb.block b (Array.getElem?_eq_some_iff.1 hc).1).trans hc, hown.kept (row := none) ⟨hb.os, hb.tape, hb.output, hb.size, fun i hi _ => hb.block i hi⟩ ?_, hne⟩
    cases v.ownBlock with
    | none => exact .inl rfl
    | some g => exact .inr (by simp)
  exact h.elim (fun x => .inl (key _ x)) (fun x => .inr (key _ x))
/-- A row of the call's own as a slice that can be read. -/
theorem own_rd {B : Nat} {w : World} {v : Value} {xs : List Int} (h : w.ownsRow B 3 1 v xs.length (xs.map (Value.int .i64))) (hl : xs.length ≤ 4611686018427387904) :
    ∃ A ca, v = .slice A xs.length ca ∧ Rd w A xs ∧ ∀ ad, A = some ad → ad.block < w.heap.size := by
  rcases h.2 with ⟨rfl, hn⟩ | ⟨g, cap, cur, rfl, h2, h3, _⟩
  · have : xs = [] := List.eq_nil_of_length_eq_zero hn
    subst this
    exact ⟨none, 0, rfl, ⟨by simp, fun h => by simp at h⟩, fun ad h => by cases h⟩
  · refine ⟨some ⟨g, 0, none⟩, cap, rfl, ⟨hl, fun hn => ⟨_, rfl, fun i x hx => h.cells (g := g) rfl i _ (by simp [hx])⟩⟩, fun ad e => ?_⟩
    cases e
    exact (Array.getElem?_eq_some_iff.1 h3).1
theorem own_built {w : World} {B : Nat} {e : TypeId} {u : Value} (hB : B ≤ w.heap.size) : (w.alloc (.cells #[u] e)).ownsRow B e 1 (.slice (some ⟨w.heap.size, 0, none⟩) 1 1) 1 [u] :=
  ⟨rfl, .inr ⟨w.heap.size, 1, #[u], rfl, hB, alloc_at w _, Nat.le_refl _, by unfold maxLen; omega, rfl, rfl⟩⟩
end Go.Proofs.YtenofigclkbbiaaDoor
