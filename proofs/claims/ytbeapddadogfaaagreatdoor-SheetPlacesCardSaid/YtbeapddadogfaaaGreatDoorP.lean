/-
  A whole number in a text: the program's integer.
-/
import Derived.Test.YtbeapddadogfaaaGreatDoorH
import Derived.Test.YtbeapddadogfaaaGreatDoorPast
import Derived.Test.YtbeapddadogfaaaGreatDoorShelf
import Derived.Test.YtbeapddadogfaaaGreatDoorTxt
import Derived.Lib.LaidTab
import Derived.Lib.SmallJoins
import Derived.Sort.Grow
import Derived.Carry
set_option linter.unusedVariables false
set_option linter.unusedSimpArgs false
namespace Go.Proofs.YtbeapddadogfaaaGreatDoor
open Go.RowKit Go.Sort
open Sheet

/-- What the library's variables hold. -/
def Tab (w : World) : Prop := Lib.TabIs Tryz.prog w "internal/strconv.uint64pow10" .u64 Lib.pow10Tab
structure Env (w : World) : Prop where
  tab : Tab w
  syn : ∃ tp p, w.var? Tryz.prog "strconv.ErrSyntax" = some #[.iface tp p]
  rng : ∃ tp p, w.var? Tryz.prog "strconv.ErrRange" = some #[.iface tp p]
  max : ∃ m, w.cell? ⟨3, 0, none⟩ = some (.int .i64 m)
theorem Env.below {w W : World} (h : Env w) (hb : Below w.heap.size w W) : Env W := by
  obtain ⟨h1, ⟨t2, p2, h2⟩, ⟨t3, p3, h3⟩, ⟨m, h4⟩⟩ := h
  refine ⟨Go.Joins.var_stays (g := 0) (by kernel_rfl) h1 hb (Nat.le_refl _), ⟨t2, p2, Go.Joins.var_stays (g := 6) (by kernel_rfl) h2 hb (Nat.le_refl _)⟩, ⟨t3, p3, Go.Joins.var_stays (g := 7) (by kernel_rfl) h3 hb (Nat.le_refl _)⟩, ⟨m, ?_⟩⟩
  exact (hb.cell (World.block_lt_of_cell? w _ h4)).trans h4
theorem b_grow {w : World} {k : Nat} {os : Array Obj} : Below w.heap.size w (grow (w.drewN k) os) :=
  ⟨rfl, rfl, rfl, by simp [grow], fun i hi => by simp [grow, Array.getElem?_append_left hi]⟩
abbrev tval (c : List UInt8) : Value := .string ⟨c.toArray⟩
theorem FormatInt_any (n : Int) (h0 : -9223372036854775808 ≤ n) (h1 : n ≤ 9223372036854775807) (w : World) (h : Env w) : Calls Tryz.prog 46 #[.int .i64 n, .int .i64 10] w fun e w' => e = .returned (tval (Lib.itoa n)) ∧ Below w.heap.size w w' :=
  (Tryz.strconv_FormatInt_10 n h0 h1 w h.tab).mono fun e w' ⟨he, k, os, hw⟩ => ⟨he, by rw [hw]; exact b_grow⟩
/-- How a whole number is read: its value, and whether it is one. -/
def IntPost (s : List UInt8) (w : World) (e : Ending) (w' : World) : Prop := ∃ v, e = .returned (.tuple #[.int .i64 v, .bool (numOf s).isSome]) ∧ (∀ x, numOf s = some x → v = x) ∧ Below w.heap.size w w'
set_option maxHeartbeats 1000000 in
theorem integer_any (s : ByteArray) (hs : s.size ≤ 1000000) (w : World) (h : Env w) : Calls Tryz.prog 79 #[.string s] w (IntPost s.data.toList w) := by
  rcases hp : Lib.parseIntB 64 s.data.toList with v | _ | _
  · skip
    obtain ⟨b0, b1⟩ := Lib.parseIntB_bounds hp
    have e : (2 ^ (64 - 1) : Nat) = 9223372036854775808 := rfl
    rw [e] at b0 b1
    have hpi := Tryz.strconv_ParseInt_10_at64_ok s (by omega) v hp
    have hfm := Lib.hid (fun W (hW : Below w.heap.size w W) => FormatInt_any v (by omega) (by omega) W (h.below hW))
    go_enter Tryz.func79, Tryz.ntmps79
    go_wp2_with fail
    refine (hpi w).mono ?_
    rintro e w1 ⟨rfl, hw1⟩
    have hb1 : Below w.heap.size w w1 := by
      rcases hw1 with rfl | ⟨t, rfl⟩
      · exact Below.refl _ _
      · exact Go.Joins.below_bytesWorld _ _ _ _ (Nat.le_refl _)
    clear hw1 hpi
    go_wp2_with fail
    refine (hfm.out w1 hb1).mono ?_
    rintro e w2 ⟨rfl, hb2⟩
    have hint : numOf s.data.toList = if Lib.itoa v = s.data.toList ∧ (Lib.trimPrefix s.data.toList [45]).length ≤ 18 then some v else none := by unfold numOf; rw [hp]
    have hintH := Lib.hid hint
    clear hint hp
    by_cases he : Lib.itoa v = s.toList
    · by_cases hl : (Lib.trimPrefix s.data.toList [45]).length ≤ 18
      · have hyes : Hid (numOf s.data.toList = some v) := hintH.out.trans (if_pos ⟨by rw [he, Lib.toList_data], hl⟩)
        have hd : decide (((Lib.trimPrefix s.data.toList [45]).length : Int) ≤ 18) = true := decide_eq_true (by omega)
        go_wp2_with (go_at_call 97; refine (Tryz.strings_TrimPrefix _ _ _).mono ?_; rintro e w' ⟨rfl, rfl⟩)
        go_ret2
        exact ⟨v, by rw [hyes.out]; rfl, (fun x hx => by rw [hyes.out] at hx; exact Option.some.inj hx), b_call hb1 hb2⟩
      · have hno : Hid (numOf s.data.toList = none) := hintH.out.trans (if_neg (fun h => hl h.2))
        have hd : decide (((Lib.trimPrefix s.data.toList [45]).length : Int) ≤ 18) = false := decide_eq_false (by omega)
        go_wp2_with (go_at_call 97; refine (Tryz.strings_TrimPrefix _ _ _).mono ?_; rintro e w' ⟨rfl, rfl⟩)
        go_ret2
        exact ⟨v, by rw [hno.out]; rfl, (fun x hx => by rw [hno.out] at hx; cases hx), b_call hb1 hb2⟩
    · have hno : Hid (numOf s.data.toList = none) := hintH.out.trans (by rw [if_neg (fun h => he (by rw [h.1, Lib.toList_data]))])
      go_wp2
      go_ret2
      exact ⟨v, by rw [hno.out]; rfl, (fun x hx => by rw [hno.out] at hx; cases hx), b_call hb1 hb2⟩
  · skip
    obtain ⟨tp, p, hv⟩ := h.syn
    have hpi := Tryz.strconv_ParseInt_10_at64_syntax_var s (by omega) hp tp p w hv
    have hno : Hid (numOf s.data.toList = none) := by show numOf _ = none; unfold numOf; rw [hp]
    clear hp hv
    go_enter Tryz.func79, Tryz.ntmps79
    go_wp2_with fail
    refine hpi.mono ?_
    rintro e w1 ⟨N, rfl, hN, hcell, hb1⟩
    clear hpi hcell
    go_wp2
    go_ret2
    exact ⟨_, by rw [hno.out]; rfl, (fun x hx => by rw [hno.out] at hx; cases hx), hb1⟩
  · skip
    obtain ⟨tp, p, hv⟩ := h.rng
    have hpi := Tryz.strconv_ParseInt_10_at64_range_var s (by omega) hp tp p w hv
    have hno : Hid (numOf s.data.toList = none) := by show numOf _ = none; unfold numOf; rw [hp]
    clear hp hv
    go_enter Tryz.func79, Tryz.ntmps79
    go_wp2_with fail
    refine hpi.mono ?_
    rintro e w1 ⟨N, rfl, hN, hcell, hb1⟩
    clear hpi hcell
    go_wp2
    go_ret2
    exact ⟨_, by rw [hno.out]; rfl, (fun x hx => by rw [hno.out] at hx; cases hx), hb1⟩
end Go.Proofs.YtbeapddadogfaaaGreatDoor
