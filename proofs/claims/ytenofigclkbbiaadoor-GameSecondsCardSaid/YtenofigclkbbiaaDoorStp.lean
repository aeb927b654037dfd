/-
  A list of calls of a clock: in memory, and what each makes of a clock.
-/
import Derived.Test.YtenofigclkbbiaaDoorX
import Derived.Test.YtenofigclkbbiaaDoorR
import Derived.Test.YtenofigclkbbiaaDoorOpn
set_option linter.unusedVariables false
set_option linter.unusedSimpArgs false
namespace Go.Proofs.YtenofigclkbbiaaDoor
namespace Game
structure Pr where
  what : Int
  team : Int
  t : Int
  later : Bool
/-- The time of a call. -/
def Pr.time (x : Pr) (now : Int) : Int := atOf x.what x.team x.t x.later now
/-- What a call makes of a clock, and its error. -/
def Ck.step (c : Ck) (x : Pr) : Ck × Int :=
  if x.what = 1 then c.start x.team (x.time c.now)
  else if x.what = 2 then c.stop (x.time c.now)
  else if x.what = 3 then c.out x.team (x.time c.now)
  else if x.what = 4 then c.extra (x.time c.now)
  else (c, c.wrong x.team (x.time c.now))
/-- What holds of a clock behind k calls. -/
structure Ck.Inv (c : Ck) (k : Nat) : Prop where
  l0 : 0 ≤ c.l0 ∧ c.l0 ≤ 1073741824 + 100000 * k
  l1 : 0 ≤ c.l1 ∧ c.l1 ≤ 1073741824 + 100000 * k
  o0 : 0 ≤ c.o0 ∧ c.o0 ≤ 10
  o1 : 0 ≤ c.o1 ∧ c.o1 ≤ 10
  ext : 0 ≤ c.ext ∧ c.ext ≤ 100000
  len : 0 ≤ c.len ∧ c.len ≤ 100000
  now : 0 ≤ c.now ∧ c.now ≤ 1073741824
  til : 0 ≤ c.til ∧ c.til ≤ 1073841824
  team : c.team = -1 ∨ c.team = 0 ∨ c.team = 1
theorem Ck.Inv.ok {c : Ck} {k : Nat} (h : c.Inv k) (hk : k ≤ 1000000) : c.Ok := by
  obtain ⟨a, b, _, _, _, _, n, t, _⟩ := h
  exact ⟨by omega, by omega, n, by omega⟩
theorem Ck.Inv.more {c : Ck} {k : Nat} (h : c.Inv k) : c.Inv (k + 1) := by
  obtain ⟨a, b, d, e, f, g, n, t, tm⟩ := h
  exact ⟨by omega, by omega, d, e, f, g, n, t, tm⟩
theorem Ck.left_le' {c : Ck} {k : Nat} {team t : Int} (h : c.Inv k) : 0 ≤ c.left team t ∧ c.left team t ≤ 1073741824 + 100000 * k := by
  obtain ⟨a, b, _⟩ := h
  unfold Ck.left Ck.of
  split <;> split <;> omega
theorem Ck.Inv.passed {c : Ck} {k : Nat} {t : Int} (h : c.Inv k) (h1 : c.now ≤ t) (h2 : t ≤ 1073741824) : (c.passed t).Inv k := by
  have h0 := Ck.left_le' (team := 0) (t := t) h
  have h1' := Ck.left_le' (team := 1) (t := t) h
  obtain ⟨a, b, d, e, f, g, n, u, tm⟩ := h
  exact ⟨h0, h1', d, e, f, g, ⟨by show 0 ≤ t; omega, by show t ≤ _; omega⟩, u, tm⟩
theorem Ck.Inv.withTeam {c : Ck} {k : Nat} {team : Int} (h : c.Inv k) (ht : team = -1 ∨ team = 0 ∨ team = 1) : ({ c with team := team } : Ck).Inv k := ⟨h.l0, h.l1, h.o0, h.o1, h.ext, h.len, h.now, h.til, ht⟩
theorem Ck.Inv.start {c : Ck} {k : Nat} {team t : Int} (h : c.Inv k) : (c.start team t).1.Inv k := by
  unfold Ck.start
  by_cases h1 : c.wrong team t = 0
  · obtain ⟨a1, a2, a3⟩ := Ck.wrong_0 h1
    simp only [h1, ne_eq, not_true, if_false]
    split
    · exact h
    · split
      · exact h
      · exact (h.passed a2 a3).withTeam (by omega)
  · simp only [ne_eq, h1, not_false_iff, if_true]; exact h
theorem Ck.Inv.stop {c : Ck} {k : Nat} {t : Int} (h : c.Inv k) : (c.stop t).1.Inv k := by
  unfold Ck.stop
  by_cases h1 : c.wrong 0 t = 0
  · obtain ⟨a1, a2, a3⟩ := Ck.wrong_0 h1
    simp only [h1, ne_eq, not_true, if_false]
    split
    · exact h
    · exact (h.passed a2 a3).withTeam (.inl rfl)
  · simp only [ne_eq, h1, not_false_iff, if_true]; exact h
theorem Ck.Inv.extra {c : Ck} {k : Nat} {t : Int} (h : c.Inv k) : (c.extra t).1.Inv (k + 1) := by
  unfold Ck.extra
  by_cases h1 : c.wrong 0 t = 0
  · obtain ⟨a1, a2, a3⟩ := Ck.wrong_0 h1
    simp only [h1, ne_eq, not_true, if_false]
    split
    · exact h.more
    · have hp := h.passed a2 a3
      obtain ⟨a, b, d, e, f, g, n, u, tm⟩ := hp
      have he := h.ext
      refine ⟨?_, ?_, d, e, f, g, n, u, tm⟩ <;> simp only [Ck.more] <;> omega
  · simp only [ne_eq, h1, not_false_iff, if_true]; exact h.more
theorem Ck.Inv.out {c : Ck} {k : Nat} {team t : Int} (h : c.Inv k) : (c.out team t).1.Inv k := by
  unfold Ck.out
  by_cases h1 : c.wrong team t = 0
  · obtain ⟨a1, a2, a3⟩ := Ck.wrong_0 h1
    simp only [h1, ne_eq, not_true, if_false]
    split
    · exact h
    · split
      · exact h
      · rename_i h4
        have hp := h.passed a2 a3
        obtain ⟨a, b, d, e, f, g, n, u, tm⟩ := hp
        have hn := h.now
        have hl := h.len
        have ho0 := h.o0
        have ho1 := h.o1
        unfold Ck.outed
        unfold Ck.outsOf at h4
        refine ⟨a, b, ?_, ?_, f, g, n, ?_, tm⟩
        · rcases a1 with rfl | rfl <;> simp [Ck.passed] at * <;> omega
        · rcases a1 with rfl | rfl <;> simp [Ck.passed] at * <;> omega
        · simp [Ck.passed]; omega
  · simp only [ne_eq, h1, not_false_iff, if_true]; exact h
theorem Ck.Inv.step {c : Ck} {k : Nat} {x : Pr} (h : c.Inv k) : (c.step x).1.Inv (k + 1) := by
  unfold Ck.step
  split
  · exact h.start.more
  · split
    · exact h.stop.more
    · split
      · exact h.out.more
      · split
        · exact h.extra
        · exact h.more
theorem Ck.Inv.new {a b o l : Int} (h : timesOk a b o l = true) : (Ck.new a b o l).Inv 0 := by
  simp [timesOk] at h
  refine ⟨?_, ?_, ?_, ?_, ?_, ?_, ?_, ?_, .inl rfl⟩ <;> simp only [Ck.new] <;> omega
end Game
open Go.ChangeShapes Go.WideShapes Go.RowKit Go.Deep Go.Joins
open Game
/-- A list of calls in memory. -/
def Prs (w : World) (A : Option Addr) (l : List Pr) : Prop :=
  l.length ≤ 9223372036854775807 ∧ (0 < l.length → ∃ ad, A = some ad ∧ ad.block < w.heap.size ∧ ∀ i x, l[i]? = some x →
    w.cell? (ad.add (i * 4)) = some (.int .i64 x.what) ∧ w.cell? ⟨(ad.add (i * 4)).block, (ad.add (i * 4)).off + 1, none⟩ = some (.int .i64 x.team) ∧ w.cell? ⟨(ad.add (i * 4)).block, (ad.add (i * 4)).off + 2, none⟩ = some (.int .i64 x.t) ∧
    w.cell? ⟨(ad.add (i * 4)).block, (ad.add (i * 4)).off + 3, none⟩ = some (.bool x.later))
theorem Prs.at_ {w W : World} {A : Option Addr} {l : List Pr} (h : Prs w A l) (hb : Below w.heap.size w W) {i : Nat} (hi : i < l.length) : ∃ ad x, A = some ad ∧ ad.block < w.heap.size ∧ l[i]? = some x ∧
    W.cell? (ad.add (i * 4)) = some (.int .i64 x.what) ∧ W.cell? ⟨(ad.add (i * 4)).block, (ad.add (i * 4)).off + 1, none⟩ = some (.int .i64 x.team) ∧ W.cell? ⟨(ad.add (i * 4)).block, (ad.add (i * 4)).off + 2, none⟩ = some (.int .i64 x.t) ∧
    W.cell? ⟨(ad.add (i * 4)).block, (ad.add (i * 4)).off + 3, none⟩ = some (.bool x.later) := by
  obtain ⟨ad, e, hlt, hc⟩ := h.2 (by omega)
  obtain ⟨c0, c1, c2, c3⟩ := hc i _ (List.getElem?_eq_getElem hi)
  exact ⟨ad, l[i], e, hlt, List.getElem?_eq_getElem hi, (hb.cell (by rw [add_block]; exact hlt)).trans c0, (hb.cell (by simp only [add_block]; exact hlt)).trans c1, (hb.cell (by simp only [add_block]; exact hlt)).trans c2, (hb.cell (by simp only [add_block]; exact hlt)).trans c3⟩
section
variable {H : Type} {enc : TypeId × Value → H} {W : World} {base : Nat}
set_option maxRecDepth 100000 in
theorem open_presses {v : Value} {d : DataW H} {p : List MemPlace} (hv : Value.okWide Tryd.prog W .any base 48 v) (h : DataW.Trod enc Tryd.prog W 0 (fun _ => true) true 48 v d p) : ∃ A cap list, v = .slice A (list : List Pr).length cap ∧ list.length ≤ cap ∧ Prs W A list := by
  obtain ⟨A, len, cap, rfl⟩ := okWide_slice Tryd.underlying48 hv
  obtain ⟨fuel, hf⟩ := h
  rcases open_fields Tryd.underlying48 Tryd.underlying53 (by kernel_rfl) (by kernel_rfl) hf with ⟨hcs, _⟩ | ⟨a, len', cap', m, hcs, hlc, hcm, hlm, hfl⟩
  · simp [Value.cells] at hcs
    obtain ⟨rfl, rfl, rfl⟩ := hcs
    exact ⟨none, 0, [], rfl, by simp, by simp, fun hn => by simp at hn⟩
  · simp [Value.cells] at hcs
    obtain ⟨rfl, rfl, rfl⟩ := hcs
    have key : ∀ i, ∃ x : Pr, i < len → W.cell? (a.add (i * 4)) = some (.int .i64 x.what) ∧ W.cell? ⟨(a.add (i * 4)).block, (a.add (i * 4)).off + 1, none⟩ = some (.int .i64 x.team) ∧ W.cell? ⟨(a.add (i * 4)).block, (a.add (i * 4)).off + 2, none⟩ = some (.int .i64 x.t) ∧ W.cell? ⟨(a.add (i * 4)).block, (a.add (i * 4)).off + 3, none⟩ = some (.bool x.later) := by
      intro i
      by_cases hi : i < len
      · obtain ⟨ys, n, hyl, hff⟩ := hfl i (by omega)
        obtain ⟨v0, y0, c0, _, t0⟩ := hff 0 _ rfl
        obtain ⟨v1, y1, c1, _, t1⟩ := hff 1 _ rfl
        obtain ⟨v2, y2, c2, _, t2⟩ := hff 2 _ rfl
        obtain ⟨v3, y3, c3, _, t3⟩ := hff 3 _ rfl
        obtain ⟨b0, e0, _, _⟩ := DataW.trod_int Tryd.underlying3 t0
        obtain ⟨b1, e1, _, _⟩ := DataW.trod_int Tryd.underlying3 t1
        obtain ⟨b2, e2, _, _⟩ := DataW.trod_int Tryd.underlying3 t2
        obtain ⟨b3, e3, _⟩ := DataW.trod_bool Tryd.underlying4 t3
        obtain rfl := (List.cons.inj e0).1
        obtain rfl := (List.cons.inj e1).1
        obtain rfl := (List.cons.inj e2).1
        obtain rfl := (List.cons.inj e3).1
        exact ⟨⟨b0, b1, b2, b3⟩, fun _ => ⟨c0, by rw [← add_more a _ 1 (by omega)]; exact c1, by rw [← add_more a _ 2 (by omega)]; exact c2, by rw [← add_more a _ 3 (by omega)]; exact c3⟩⟩
      · exact ⟨⟨0, 0, 0, false⟩, fun h => absurd h hi⟩
    obtain ⟨f, hfk⟩ := Classical.axiomOfChoice key
    refine ⟨some a, cap, (List.range len).map f, by simp, by simpa using hlc, by simp; unfold maxLen at hcm; omega, fun hn => ⟨a, rfl, ?_, ?_⟩⟩
    · simp at hn
      have := World.block_lt_of_cell? W _ (hfk 0 hn).1
      rwa [add_block] at this
    · intro i x hx
      simp only [List.getElem?_map, Option.map_eq_some_iff] at hx
      obtain ⟨j, hj, rfl⟩ := hx
      obtain ⟨hjl, rfl⟩ := List.getElem?_eq_some_iff.1 hj
      simp only [List.length_range] at hjl
      simp only [List.getElem_range]
      exact hfk i hjl
end
end Go.Proofs.YtenofigclkbbiaaDoor
