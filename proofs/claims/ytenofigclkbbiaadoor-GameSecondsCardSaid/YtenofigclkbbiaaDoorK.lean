/-
  The clock of the program: its words, and the inner functions.
-/
import Derived.Test.YtenofigclkbbiaaDoorC
import Derived.BigRegion
set_option linter.unusedVariables false
set_option linter.unusedSimpArgs false
namespace Go.Proofs.YtenofigclkbbiaaDoor
namespace Game
structure Ck where
  tot : Int
  ext : Int
  outs : Int
  len : Int
  l0 : Int
  l1 : Int
  o0 : Int
  o1 : Int
  team : Int
  now : Int
  til : Int
/-- The seconds of a team. -/
def Ck.of (c : Ck) (team : Int) : Int := if team = 0 then c.l0 else c.l1
def Ck.outsOf (c : Ck) (team : Int) : Int := if team = 0 then c.o0 else c.o1
/-- The seconds of a team that are left at a time. -/
def Ck.left (c : Ck) (team t : Int) : Int := if c.team = team then max 0 (c.of team - max 0 (t - max c.now c.til)) else c.of team
def Ck.passed (c : Ck) (t : Int) : Ck := { c with l0 := c.left 0 t, l1 := c.left 1 t, now := t }
/-- Why a call is none of a team at a time. -/
def Ck.wrong (c : Ck) (team t : Int) : Int := if wi team 0 1 = true then (if wi t c.now 1073741824 = true then 0 else 4) else 2
/-- The bounds of a clock's numbers. -/
structure Ck.Ok (c : Ck) : Prop where
  l0 : 0 ≤ c.l0 ∧ c.l0 ≤ 1099511627776
  l1 : 0 ≤ c.l1 ∧ c.l1 ≤ 1099511627776
  now : 0 ≤ c.now ∧ c.now ≤ 1073741824
  til : 0 ≤ c.til ∧ c.til ≤ 1099511627776
def timesOk (tot ext outs len : Int) : Bool := decide ((1 ≤ tot ∧ tot ≤ 1073741824) ∧ (0 ≤ ext ∧ ext ≤ 100000) ∧ (0 ≤ len ∧ len ≤ 100000) ∧ (0 ≤ outs ∧ outs ≤ 10))
def Ck.new (tot ext outs len : Int) : Ck := ⟨tot, ext, outs, len, tot, tot, outs, outs, -1, 0, 0⟩
end Game
open Go.RowKit
open Game

/-- A clock in memory. -/
structure CkAt (w : World) (g : Nat) (c : Ck) : Prop where
  c0 : w.cell? ⟨g, 0, none⟩ = some (.int .i64 c.tot)
  c1 : w.cell? ⟨g, 1, none⟩ = some (.int .i64 c.ext)
  c2 : w.cell? ⟨g, 2, none⟩ = some (.int .i64 c.outs)
  c3 : w.cell? ⟨g, 3, none⟩ = some (.int .i64 c.len)
  c4 : w.cell? ⟨g, 4, none⟩ = some (.bool true)
  c5 : w.cell? ⟨g, 5, none⟩ = some (.int .i64 c.l0)
  c6 : w.cell? ⟨g, 6, none⟩ = some (.int .i64 c.l1)
  c7 : w.cell? ⟨g, 7, none⟩ = some (.int .i64 c.o0)
  c8 : w.cell? ⟨g, 8, none⟩ = some (.int .i64 c.o1)
  c9 : w.cell? ⟨g, 9, none⟩ = some (.int .i64 c.team)
  c10 : w.cell? ⟨g, 10, none⟩ = some (.int .i64 c.now)
  c11 : w.cell? ⟨g, 11, none⟩ = some (.int .i64 c.til)
  f : ∀ o, w.frozen? ⟨g, o, none⟩ = false
  z : g < w.heap.size
theorem CkAt.kept {w W : World} {g : Nat} {c : Ck} (h : CkAt w g c) (hb : W.heap[g]? = w.heap[g]?) (hz : g < W.heap.size) : CkAt W g c :=
  ⟨(World.cell?_of_block (a := ⟨g, 0, none⟩) hb).trans h.c0, (World.cell?_of_block (a := ⟨g, 1, none⟩) hb).trans h.c1, (World.cell?_of_block (a := ⟨g, 2, none⟩) hb).trans h.c2, (World.cell?_of_block (a := ⟨g, 3, none⟩) hb).trans h.c3,
   (World.cell?_of_block (a := ⟨g, 4, none⟩) hb).trans h.c4, (World.cell?_of_block (a := ⟨g, 5, none⟩) hb).trans h.c5, (World.cell?_of_block (a := ⟨g, 6, none⟩) hb).trans h.c6, (World.cell?_of_block (a := ⟨g, 7, none⟩) hb).trans h.c7,
   (World.cell?_of_block (a := ⟨g, 8, none⟩) hb).trans h.c8, (World.cell?_of_block (a := ⟨g, 9, none⟩) hb).trans h.c9, (World.cell?_of_block (a := ⟨g, 10, none⟩) hb).trans h.c10, (World.cell?_of_block (a := ⟨g, 11, none⟩) hb).trans h.c11,
   fun o => by have := h.f o; simp only [World.frozen?, hb] at this ⊢; exact this, hz⟩
theorem CkAt.below {B : Nat} {w W : World} {g : Nat} {c : Ck} (h : CkAt w g c) (hb : Below B w W) (hg : g < B) : CkAt W g c := h.kept (hb.block g hg) (Nat.lt_of_lt_of_le h.z hb.size)

theorem is_nil (w : World) : Calls Tryd.prog 53 #[.pointer none] w fun e w' => e = .returned (.bool false) ∧ w = w' := by
  go_enter Tryd.func53, Tryd.ntmps53
  go_wp2
  go_ret
  exact ⟨rfl, rfl⟩
theorem is_any (g : Nat) (c : Ck) (w : World) (h : CkAt w g c) : Calls Tryd.prog 53 #[.pointer (some ⟨g, 0, none⟩)] w fun e w' => e = .returned (.bool true) ∧ w = w' := by
  have hC := h
  obtain ⟨c0, c1, c2, c3, c4, c5, c6, c7, c8, c9, c10, c11, cf, cz⟩ := hC
  go_enter Tryd.func53, Tryd.ntmps53
  go_wp2
  go_ret
  exact ⟨rfl, rfl⟩
theorem wrong_nil (team t : Int) (w : World) : Calls Tryd.prog 54 #[.pointer none, .int .i64 team, .int .i64 t] w fun e w' => e = .returned (.int .i64 1) ∧ w = w' := by
  go_enter Tryd.func54, Tryd.ntmps54
  go_wp2_with (go_at_call 53; refine (is_nil _).mono ?_; rintro e w' ⟨rfl, rfl⟩)
  go_ret
  exact ⟨rfl, rfl⟩
theorem wrong_any (g : Nat) (c : Ck) (team t : Int) (w : World) (h : CkAt w g c) : Calls Tryd.prog 54 #[.pointer (some ⟨g, 0, none⟩), .int .i64 team, .int .i64 t] w fun e w' => e = .returned (.int .i64 (c.wrong team t)) ∧ w = w' := by
  have hC := h
  obtain ⟨c0, c1, c2, c3, c4, c5, c6, c7, c8, c9, c10, c11, cf, cz⟩ := hC
  unfold Ck.wrong
  by_cases h1 : wi team 0 1 = true
  · by_cases h2 : wi t c.now 1073741824 = true
    · go_enter Tryd.func54, Tryd.ntmps54
      go_wp2_with (first
        | (go_at_call 53; refine (is_any g c _ h).mono ?_; rintro e w' ⟨rfl, rfl⟩)
        | (go_at_call 39; refine (within_any _ _ _ _).mono ?_; rintro e w' ⟨rfl, rfl⟩))
      go_ret
      exact ⟨by simp [h1, h2], rfl⟩
    · have h2' := Bool.eq_false_iff.2 h2
      go_enter Tryd.func54, Tryd.ntmps54
      go_wp2_with (first
        | (go_at_call 53; refine (is_any g c _ h).mono ?_; rintro e w' ⟨rfl, rfl⟩)
        | (go_at_call 39; refine (within_any _ _ _ _).mono ?_; rintro e w' ⟨rfl, rfl⟩))
      go_ret
      exact ⟨by simp [h1, h2], rfl⟩
  · have h1' := Bool.eq_false_iff.2 h1
    go_enter Tryd.func54, Tryd.ntmps54
    go_wp2_with (first
      | (go_at_call 53; refine (is_any g c _ h).mono ?_; rintro e w' ⟨rfl, rfl⟩)
      | (go_at_call 39; refine (within_any _ _ _ _).mono ?_; rintro e w' ⟨rfl, rfl⟩))
    go_ret
    exact ⟨by simp [h1], rfl⟩
end Go.Proofs.YtenofigclkbbiaaDoor
