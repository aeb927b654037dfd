/-
  What is wrong with a line: the closures, and the search through them.
-/
import Derived.Test.YtenofigclkbbiaaDoorD
import Derived.Test.YtenofigclkbbiaaDoorBasb
set_option linter.unusedVariables false
set_option linter.unusedSimpArgs false
namespace Go.Proofs.YtenofigclkbbiaaDoor
open Go.RowKit
open Game

/-- What the five closures answer. -/
def wrong (m : Mt) (s : St) (x : Ln) : Nat → Bool
  | 0 => s.over
  | 1 => !wi x.team (-1) 1
  | 2 => decide (x.team = -1 ∧ x.points ≠ 0)
  | 3 => decide (x.team ≠ -1) && !wi x.points 1 m.most
  | 4 => x.power && (!m.power || decide (m.ends ≤ s.ends) || s.gone)
  | _ => false
theorem fits_wrong (m : Mt) (s : St) (x : Ln) : fits m s x = !(wrong m s x 0 || wrong m s x 1 || wrong m s x 2 || wrong m s x 3 || wrong m s x 4) := by
  rw [Bool.eq_iff_iff]
  simp only [fits, wrong, wi, Bool.not_eq_true', Bool.or_eq_false_iff, Bool.and_eq_false_iff, Bool.not_eq_false', Bool.not_eq_true', decide_eq_true_eq, decide_eq_false_iff_not, Bool.not_not, Bool.or_eq_false_iff]
  cases s.over <;> cases x.power <;> cases m.power <;> cases s.gone <;> simp <;> omega
theorem f71_any (x : Ln) (B g : Nat) (s : St) (m : Mt) (w : World) (hB : w.cell? ⟨B, 0, none⟩ = some (.pointer (some ⟨g, 0, none⟩))) (h : GameAt w g s m) :
    Calls Tryd.prog 71 #[xval x, .pointer (some ⟨B, 0, none⟩)] w fun e w' => e = .returned (.bool (wrong m s x 0)) ∧ Below w.heap.size w w' := by
  have hBl := World.block_lt_of_cell? w _ hB
  have hlt := h.lt
  obtain ⟨c0, c1, c2, c3, c4, c5, c6, c7, c8, c9, c10, c11, c12, c13, fz⟩ := h
  simp only at hBl
  go_enter Tryd.func71, Tryd.ntmps71
  go_wp2
  go_ret
  exact ⟨rfl, by (repeat (first | (with_reducible exact Below.refl _ _) | (with_reducible assumption) | (with_reducible refine b_alloc ?_) | (with_reducible refine b_drew ?_) | (with_reducible refine b_drewN ?_) | (with_reducible refine b_set ?_ (by first | (simp; done) | (dsimp only; omega))) | (with_reducible refine b_call ?_ (by assumption))))⟩
theorem f72_any (m : Mt) (s : St) (x : Ln) (w : World) : Calls Tryd.prog 72 #[xval x] w fun e w' => e = .returned (.bool (wrong m s x 1)) ∧ Below w.heap.size w w' := by
  go_enter Tryd.func72, Tryd.ntmps72
  go_wp2_with (go_at_call 39; refine (within_any _ _ _ _).mono ?_; rintro e w' ⟨rfl, rfl⟩)
  go_ret
  exact ⟨rfl, by (repeat (first | (with_reducible exact Below.refl _ _) | (with_reducible assumption) | (with_reducible refine b_alloc ?_) | (with_reducible refine b_drew ?_) | (with_reducible refine b_drewN ?_) | (with_reducible refine b_set ?_ (by first | (simp; done) | (dsimp only; omega))) | (with_reducible refine b_call ?_ (by assumption))))⟩
theorem f73_any (m : Mt) (s : St) (x : Ln) (w : World) : Calls Tryd.prog 73 #[xval x] w fun e w' => e = .returned (.bool (wrong m s x 2)) ∧ Below w.heap.size w w' := by
  have fin : ∀ b : Bool, b = wrong m s x 2 → Ending.returned (.bool b) = Ending.returned (.bool (wrong m s x 2)) := fun b h => by rw [h]
  by_cases h1 : x.team = -1
  all_goals
    go_enter Tryd.func73, Tryd.ntmps73
    go_wp2
    all_goals
      go_ret
      exact ⟨fin _ (by simp only [wrong]; rw [Bool.eq_iff_iff]; simp [h1]), by (repeat (first | (with_reducible exact Below.refl _ _) | (with_reducible assumption) | (with_reducible refine b_alloc ?_) | (with_reducible refine b_drew ?_) | (with_reducible refine b_drewN ?_) | (with_reducible refine b_set ?_ (by first | (simp; done) | (dsimp only; omega))) | (with_reducible refine b_call ?_ (by assumption))))⟩
theorem f74_any (x : Ln) (B g : Nat) (s : St) (m : Mt) (w : World) (hB : w.cell? ⟨B, 0, none⟩ = some (.pointer (some ⟨g, 0, none⟩))) (h : GameAt w g s m) :
    Calls Tryd.prog 74 #[xval x, .pointer (some ⟨B, 0, none⟩)] w fun e w' => e = .returned (.bool (wrong m s x 3)) ∧ Below w.heap.size w w' := by
  have hBl := World.block_lt_of_cell? w _ hB
  have hlt := h.lt
  obtain ⟨c0, c1, c2, c3, c4, c5, c6, c7, c8, c9, c10, c11, c12, c13, fz⟩ := h
  simp only at hBl
  obtain ⟨te, po, pw⟩ := x
  by_cases h1 : te = -1
  · subst h1
    go_enter Tryd.func74, Tryd.ntmps74
    go_wp2_with fail
    go_quiet (fail)
    go_wp2
    go_ret
    exact ⟨by simp [wrong], by (repeat (first | (with_reducible exact Below.refl _ _) | (with_reducible assumption) | (with_reducible refine b_alloc ?_) | (with_reducible refine b_drew ?_) | (with_reducible refine b_drewN ?_) | (with_reducible refine b_set ?_ (by first | (simp; done) | (dsimp only; omega))) | (with_reducible refine b_call ?_ (by assumption))))⟩
  · have h2 : (te != -1) = true := by simpa using h1
    go_enter Tryd.func74, Tryd.ntmps74
    go_wp2_with fail
    go_quiet ((go_at_call 39; exact quiet_left (within_any _ _ _ _)))
    go_wp2
    go_ret
    exact ⟨by simp [wrong, h1], by (repeat (first | (with_reducible exact Below.refl _ _) | (with_reducible assumption) | (with_reducible refine b_alloc ?_) | (with_reducible refine b_drew ?_) | (with_reducible refine b_drewN ?_) | (with_reducible refine b_set ?_ (by first | (simp; done) | (dsimp only; omega))) | (with_reducible refine b_call ?_ (by assumption))))⟩
theorem f75_any (x : Ln) (B g : Nat) (s : St) (m : Mt) (w : World) (hB : w.cell? ⟨B, 0, none⟩ = some (.pointer (some ⟨g, 0, none⟩))) (h : GameAt w g s m) (hh : s.hammer = 0 ∨ s.hammer = 1) :
    Calls Tryd.prog 75 #[xval x, .pointer (some ⟨B, 0, none⟩)] w fun e w' => e = .returned (.bool (wrong m s x 4)) ∧ Below w.heap.size w w' := by
  have hBl := World.block_lt_of_cell? w _ hB
  have hlt := h.lt
  obtain ⟨c0, c1, c2, c3, c4, c5, c6, c7, c8, c9, c10, c11, c12, c13, fz⟩ := h
  simp only at hBl
  obtain ⟨te, po, pw⟩ := x
  cases pw
  · go_enter Tryd.func75, Tryd.ntmps75
    go_wp2_with fail
    go_quiet (fail)
    go_wp2
    go_ret
    exact ⟨by simp [wrong], by (repeat (first | (with_reducible exact Below.refl _ _) | (with_reducible assumption) | (with_reducible refine b_alloc ?_) | (with_reducible refine b_drew ?_) | (with_reducible refine b_drewN ?_) | (with_reducible refine b_set ?_ (by first | (simp; done) | (dsimp only; omega))) | (with_reducible refine b_call ?_ (by assumption))))⟩
  · obtain ⟨me, mm, ma, mc, mp⟩ := m
    obtain ⟨p0, p1, en, ha, wi, ov, ex, w0, w1⟩ := s
    simp only at c0 c1 c2 c3 c4 c5 c6 c7 c8 c9 c10 c11 c12 c13 hh
    cases mp
    · go_enter Tryd.func75, Tryd.ntmps75
      go_wp2_with fail
      go_quiet (fail)
      go_wp2
      go_ret
      exact ⟨by simp [wrong, St.gone, *], by (repeat (first | (with_reducible exact Below.refl _ _) | (with_reducible assumption) | (with_reducible refine b_alloc ?_) | (with_reducible refine b_drew ?_) | (with_reducible refine b_drewN ?_) | (with_reducible refine b_set ?_ (by first | (simp; done) | (dsimp only; omega))) | (with_reducible refine b_call ?_ (by assumption))))⟩
    · by_cases q : me ≤ en
      · have hd : decide (me ≤ en) = true := decide_eq_true q
        go_enter Tryd.func75, Tryd.ntmps75
        go_wp2_with fail
        go_quiet (fail)
        go_wp2
        go_ret
        exact ⟨by simp [wrong, St.gone, *], by (repeat (first | (with_reducible exact Below.refl _ _) | (with_reducible assumption) | (with_reducible refine b_alloc ?_) | (with_reducible refine b_drew ?_) | (with_reducible refine b_drewN ?_) | (with_reducible refine b_set ?_ (by first | (simp; done) | (dsimp only; omega))) | (with_reducible refine b_call ?_ (by assumption))))⟩
      · have hd : decide (me ≤ en) = false := decide_eq_false q
        rcases hh with h | h <;> subst h
        · go_enter Tryd.func75, Tryd.ntmps75
          go_wp2_with fail
          go_quiet (fail)
          go_wp2
          go_ret
          exact ⟨by simp [wrong, St.gone, *], by (repeat (first | (with_reducible exact Below.refl _ _) | (with_reducible assumption) | (with_reducible refine b_alloc ?_) | (with_reducible refine b_drew ?_) | (with_reducible refine b_drewN ?_) | (with_reducible refine b_set ?_ (by first | (simp; done) | (dsimp only; omega))) | (with_reducible refine b_call ?_ (by assumption))))⟩
        · go_enter Tryd.func75, Tryd.ntmps75
          go_wp2_with fail
          go_quiet (fail)
          go_wp2
          go_ret
          exact ⟨by simp [wrong, St.gone, *], by (repeat (first | (with_reducible exact Below.refl _ _) | (with_reducible assumption) | (with_reducible refine b_alloc ?_) | (with_reducible refine b_drew ?_) | (with_reducible refine b_drewN ?_) | (with_reducible refine b_set ?_ (by first | (simp; done) | (dsimp only; omega))) | (with_reducible refine b_call ?_ (by assumption))))⟩
/-- The function values of the list; B: the box of the state's pointer. -/
def fv (B : Nat) : Nat → Value
  | 0 => .func (.func 71) #[] #[.pointer (some ⟨B, 0, none⟩)]
  | 1 => .func (.func 72) #[] #[]
  | 2 => .func (.func 73) #[] #[]
  | 3 => .func (.func 74) #[] #[.pointer (some ⟨B, 0, none⟩)]
  | 4 => .func (.func 75) #[] #[.pointer (some ⟨B, 0, none⟩)]
  | _ => .nilFunc
/-- The list of closures in memory. -/
structure FvsAt (w : World) (g B : Nat) : Prop where
  c0 : w.cell? ⟨g, 0, none⟩ = some (fv B 0)
  c1 : w.cell? ⟨g, 1, none⟩ = some (fv B 1)
  c2 : w.cell? ⟨g, 2, none⟩ = some (fv B 2)
  c3 : w.cell? ⟨g, 3, none⟩ = some (fv B 3)
  c4 : w.cell? ⟨g, 4, none⟩ = some (fv B 4)
theorem FvsAt.lt {w : World} {g B : Nat} (h : FvsAt w g B) : g < w.heap.size := World.block_lt_of_cell? w _ h.c0
theorem FvsAt.at_ {w : World} {g B k : Nat} (h : FvsAt w g B) (hk : k < 5) : w.cell? ⟨g, k, none⟩ = some (fv B k) := by
  match k, hk with
  | 0, _ => exact h.c0
  | 1, _ => exact h.c1
  | 2, _ => exact h.c2
  | 3, _ => exact h.c3
  | 4, _ => exact h.c4
theorem wrongs_any (g : Nat) (w : World) : Calls Tryd.prog 63 #[.pointer (some ⟨g, 0, none⟩)] w fun e w' => ∃ q B, e = .returned (.slice (some ⟨q, 0, none⟩) 5 5) ∧ w.heap.size ≤ q ∧ w.heap.size ≤ B ∧ FvsAt w' q B ∧ w'.cell? ⟨B, 0, none⟩ = some (.pointer (some ⟨g, 0, none⟩)) ∧ Below w.heap.size w w' := by
  have hmf : ∀ (fn : Fn) (first cap : Array Value) (w : World), (Instr.makeFunc fn first cap).run Tryd.prog w = .ok (.func fn first cap) w := fun _ _ _ _ => rfl
  go_enter Tryd.func63, Tryd.ntmps63
  go_wp2
  go_ret
  exact ⟨_, _, rfl, by omega, Nat.le_refl _, by constructor <;> simp [go_sem, fv], by simp [go_sem], by (repeat (first | (with_reducible exact Below.refl _ _) | (with_reducible assumption) | (with_reducible refine b_alloc ?_) | (with_reducible refine b_drew ?_) | (with_reducible refine b_drewN ?_) | (with_reducible refine b_set ?_ (by first | (simp; done) | (dsimp only; omega))) | (with_reducible refine b_call ?_ (by assumption))))⟩
theorem f64_any (k : Nat) (hk : k < 5) (x : Ln) (X B g : Nat) (s : St) (m : Mt) (w : World) (hX : LineAt w X x) (hB : w.cell? ⟨B, 0, none⟩ = some (.pointer (some ⟨g, 0, none⟩))) (h : GameAt w g s m) (hh : k = 4 → s.hammer = 0 ∨ s.hammer = 1) :
    Calls Tryd.prog 64 #[fv B k, .pointer (some ⟨X, 0, none⟩)] w fun e w' => e = .returned (.bool (wrong m s x k)) ∧ Below w.heap.size w w' := by
  obtain ⟨x0, x1, x2⟩ := hX
  match k, hk with
  | 0, _ =>
    have hcl := f71_any x B g s m w hB h
    clear h hh
    simp only [fv]
    go_enter Tryd.func64, Tryd.ntmps64
    go_wp2_with fail
    refine hcl.mono ?_
    rintro e w1 ⟨rfl, hb⟩
    clear hcl
    go_wp2
    go_ret
    exact ⟨rfl, hb⟩
  | 1, _ =>
    have hcl := f72_any m s x w
    clear h hh
    simp only [fv]
    go_enter Tryd.func64, Tryd.ntmps64
    go_wp2_with fail
    refine hcl.mono ?_
    rintro e w1 ⟨rfl, hb⟩
    clear hcl
    go_wp2
    go_ret
    exact ⟨rfl, hb⟩
  | 2, _ =>
    have hcl := f73_any m s x w
    clear h hh
    simp only [fv]
    go_enter Tryd.func64, Tryd.ntmps64
    go_wp2_with fail
    refine hcl.mono ?_
    rintro e w1 ⟨rfl, hb⟩
    clear hcl
    go_wp2
    go_ret
    exact ⟨rfl, hb⟩
  | 3, _ =>
    have hcl := f74_any x B g s m w hB h
    clear h hh
    simp only [fv]
    go_enter Tryd.func64, Tryd.ntmps64
    go_wp2_with fail
    refine hcl.mono ?_
    rintro e w1 ⟨rfl, hb⟩
    clear hcl
    go_wp2
    go_ret
    exact ⟨rfl, hb⟩
  | 4, _ =>
    have hcl := f75_any x B g s m w hB h (hh rfl)
    clear h hh
    simp only [fv]
    go_enter Tryd.func64, Tryd.ntmps64
    go_wp2_with fail
    refine hcl.mono ?_
    rintro e w1 ⟨rfl, hb⟩
    clear hcl
    go_wp2
    go_ret
    exact ⟨rfl, hb⟩
/-- The first place at which something is wrong. -/
def FirstWrong (b : Nat → Bool) (e : Ending) : Prop := (e = .returned (.int .i64 (-1)) ∧ ∀ j, j < 5 → b j = false) ∨ (∃ j : Nat, j < 5 ∧ e = .returned (.int .i64 j) ∧ b j = true)
set_option maxHeartbeats 1000000 in
theorem IndexFunc_any (x : Ln) (X B g q : Nat) (s : St) (m : Mt) (w : World) (hX : LineAt w X x) (hB : w.cell? ⟨B, 0, none⟩ = some (.pointer (some ⟨g, 0, none⟩))) (hF : FvsAt w q B) (h : GameAt w g s m) (hh : s.over = false → s.hammer = 0 ∨ s.hammer = 1) :
    Calls Tryd.prog 70 #[.slice (some ⟨q, 0, none⟩) 5 5, .func (.func 64) #[] #[.pointer (some ⟨X, 0, none⟩)]] w fun e w' => FirstWrong (wrong m s x) e ∧ Below w.heap.size w w' := by
  have hBl := World.block_lt_of_cell? w _ hB
  simp only at hBl
  go_enter Tryd.func70, Tryd.ntmps70
  go_wp2
  go_loopw [8] (fun i wr => ∃ k : Nat, k ≤ 5 ∧ i = .int .i64 k ∧ (∀ j, j < k → wrong m s x j = false) ∧ Below w.heap.size w wr)
    (fun i _ => 5 - (intOf i).toNat)
  case atStart => exact ⟨0, by omega, rfl, fun j hj => by omega, Below.refl _ _⟩
  case round =>
    obtain ⟨k, hk, rfl, hw, hb⟩ := hrel
    by_cases hlt : k < 5
    · have hc := (hb.cell (p := ⟨q, k, none⟩) hF.lt).trans (hF.at_ hlt)
      have hcl := f64_any k hlt x X B g s m wr (hX.below hb) ((hb.cell (p := ⟨B, 0, none⟩) hBl).trans hB) (h.below hb) (fun e => hh (by subst e; exact hw 0 (by omega)))
      have hw' := Lib.hid hw
      clear hw
      go_wp2_with fail
      refine hcl.mono ?_
      rintro e w1 ⟨rfl, hb1⟩
      clear hcl hc
      by_cases hwr : wrong m s x k = true
      · go_wp2
        go_ret
        exact ⟨.inr ⟨k, hlt, rfl, hwr⟩, b_call hb hb1⟩
      · have hwf := Bool.eq_false_iff.2 hwr
        go_wp2
        go_roundw
        case rel =>
          refine ⟨k + 1, by omega, by go_num, fun j hj => ?_, b_call hb hb1⟩
          rcases Nat.lt_or_ge j k with h1 | h1
          · exact hw'.out j h1
          · obtain rfl : j = k := by omega
            exact hwf
        case measure => simp [intOf]; omega
    · obtain rfl : k = 5 := by omega
      have hw' := Lib.hid hw
      clear hw
      go_wp2
      go_ret
      exact ⟨.inl ⟨rfl, hw'.out⟩, hb⟩
theorem ContainsFunc_any (x : Ln) (X B g q : Nat) (s : St) (m : Mt) (w : World) (hX : LineAt w X x) (hB : w.cell? ⟨B, 0, none⟩ = some (.pointer (some ⟨g, 0, none⟩))) (hF : FvsAt w q B) (h : GameAt w g s m) (hh : s.over = false → s.hammer = 0 ∨ s.hammer = 1) :
    Calls Tryd.prog 62 #[.slice (some ⟨q, 0, none⟩) 5 5, .func (.func 64) #[] #[.pointer (some ⟨X, 0, none⟩)]] w fun e w' => e = .returned (.bool (!fits m s x)) ∧ Below w.heap.size w w' := by
  have hcl := IndexFunc_any x X B g q s m w hX hB hF h hh
  have hfw := Lib.hid (fits_wrong m s x)
  clear h hF hX hB hh
  go_enter Tryd.func62, Tryd.ntmps62
  go_wp2_with fail
  refine hcl.mono ?_
  rintro e w1 ⟨he, hb⟩
  clear hcl
  rcases he with ⟨rfl, h0⟩ | ⟨j, hj, rfl, h1⟩
  · have h0' := Lib.hid h0
    clear h0
    go_wp2
    go_ret
    exact ⟨by rw [hfw.out, h0'.out 0 (by omega), h0'.out 1 (by omega), h0'.out 2 (by omega), h0'.out 3 (by omega), h0'.out 4 (by omega)]; rfl, hb⟩
  · have h1' := Lib.hid h1
    clear h1
    go_wp2
    go_ret
    have : fits m s x = false := by
      rw [hfw.out]
      have h2 := h1'.out
      match j, hj with
      | 0, _ => simp [h2]
      | 1, _ => simp [h2]
      | 2, _ => simp [h2]
      | 3, _ => simp [h2]
      | 4, _ => simp [h2]
    exact ⟨by simp [this], hb⟩
end Go.Proofs.YtenofigclkbbiaaDoor
