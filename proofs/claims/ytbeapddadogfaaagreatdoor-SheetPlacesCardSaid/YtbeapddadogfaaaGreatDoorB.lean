/-
  Contracts of layer 2, the program's and the reference's: Zone, OnCentre, contact, Contact.
-/
import Derived.Test.YtbeapddadogfaaaGreatDoorA
set_option linter.unusedVariables false
set_option linter.unusedSimpArgs false
namespace Go.Proofs.YtbeapddadogfaaaGreatDoor
open Go.RowKit
open Sheet

/-- Whether a stone at a valid place is on the centre line. -/
def centre (x y : Int) : Bool := !away x y && decide (sz x ≤ 9502720)
theorem zone_ne (x y : Int) : zone x y ≠ 0 ↔ away x y = false := by
  unfold zone
  split
  · rename_i h; simp [h]
  · rename_i h; split <;> (try split) <;> simp [h]
theorem ret_tb {a b : Bool} {v : Value} (h : a = b) : Ending.returned (.tuple #[.bool a, v]) = .returned (.tuple #[.bool b, v]) := by rw [h]
theorem ret_ti {k : IntKind} {a b : Int} {v : Value} (h : a = b) : Ending.returned (.tuple #[.int k a, v]) = .returned (.tuple #[.int k b, v]) := by rw [h]
theorem Zone_any (x y : Int) (w : World) :
    Calls Tryz.prog 18 #[pval x y] w fun e w' => e = .returned (.tuple #[.int .i64 (if vplace x y = true then zone x y else 0), .int .i64 (if vplace x y = true then 0 else 2)]) ∧ Below w.heap.size w w' := by
  cases h : vplace x y with
  | true =>
    simp only [if_true]
    have hz := fun w => zone_any x y w h
    go_enter Tryz.func18, Tryz.ntmps18
    go_wp2_with (first | (go_at_call 22; refine (CheckSpot_any _ _ _).mono ?_; rintro e w1 ⟨rfl, hb1⟩; obtain ⟨hc, hf⟩ := bcell hb1) | (go_at_call 54; refine (hz _).mono ?_; rintro e w2 ⟨rfl, hb2⟩))
    go_ret2
    exact ⟨rfl, b_call (b_call (b_alloc (Below.refl _ _)) hb1) hb2⟩
  | false =>
    simp only [Bool.false_eq_true, if_false]
    go_enter Tryz.func18, Tryz.ntmps18
    go_wp2_with (first | (go_at_call 22; refine (CheckSpot_any _ _ _).mono ?_; rintro e w1 ⟨rfl, hb1⟩; obtain ⟨hc, hf⟩ := bcell hb1))
    go_ret2
    exact ⟨rfl, b_call (b_alloc (Below.refl _ _)) hb1⟩
theorem OnCentre_any (x y : Int) (w : World) :
    Calls Tryz.prog 20 #[pval x y] w fun e w' => e = .returned (.tuple #[.bool (vplace x y && centre x y), .int .i64 (if vplace x y = true then 0 else 2)]) ∧ Below w.heap.size w w' := by
  cases h : vplace x y with
  | true =>
    simp only [if_true, Bool.true_and]
    have hz := fun w => zone_any x y w h
    obtain ⟨p0, p1, p2, p3⟩ := place_bd h
    obtain ⟨s0, s1⟩ := sz_bd x 6553600000 p0 p1
    have hne := zone_ne x y
    obtain ⟨z, hze⟩ : ∃ z, z = zone x y := ⟨_, rfl⟩
    rw [← hze] at hz hne
    clear hze
    by_cases h0 : z = 0
    · subst h0
      have hcen : centre x y = false := by
        unfold centre
        cases ha : away x y with
        | true => rfl
        | false => exact absurd rfl (hne.2 ha)
      have hcen := Lib.hid hcen
      clear hne
      go_enter Tryz.func20, Tryz.ntmps20
      go_wp2_with (first | (go_at_call 22; refine (CheckSpot_any _ _ _).mono ?_; rintro e w1 ⟨rfl, hb1⟩; obtain ⟨hc, hf⟩ := bcell hb1) | (go_at_call 54; refine (hz _).mono ?_; rintro e w2 ⟨rfl, hb2⟩; obtain ⟨hc2, hf2⟩ := bcell hb2) | (go_at_call 56; refine (size_any _ _ (by omega) (by omega)).mono ?_; rintro e w' ⟨rfl, rfl⟩))
      go_ret2
      exact ⟨by rw [hcen.out]; rfl, b_call (b_call (b_alloc (Below.refl _ _)) hb1) hb2⟩
    · have hcen : centre x y = decide (sz x ≤ 9502720) := by
        unfold centre
        rw [hne.1 h0]
        rfl
      have hcen := Lib.hid hcen
      have hz0 : (z == 0) = false := by simpa using h0
      have hz1 : (z != 0) = true := by simpa using h0
      clear hne
      go_enter Tryz.func20, Tryz.ntmps20
      go_wp2_with (first | (go_at_call 22; refine (CheckSpot_any _ _ _).mono ?_; rintro e w1 ⟨rfl, hb1⟩; obtain ⟨hc, hf⟩ := bcell hb1) | (go_at_call 54; refine (hz _).mono ?_; rintro e w2 ⟨rfl, hb2⟩; obtain ⟨hc2, hf2⟩ := bcell hb2; have hsz : w.heap.size < w1.heap.size := by (have := hb1.size; simp at this; omega)) | (go_at_call 56; refine (size_any _ _ (by omega) (by omega)).mono ?_; rintro e w' ⟨rfl, rfl⟩))
      all_goals (go_ret2; exact ⟨ret_tb (by rw [hcen.out]; (try rfl); (try simp [*])), b_call (b_call (b_alloc (Below.refl _ _)) hb1) hb2⟩)
  | false =>
    simp only [Bool.false_eq_true, if_false, Bool.false_and]
    go_enter Tryz.func20, Tryz.ntmps20
    go_wp2_with (first | (go_at_call 22; refine (CheckSpot_any _ _ _).mono ?_; rintro e w1 ⟨rfl, hb1⟩; obtain ⟨hc, hf⟩ := bcell hb1))
    go_ret2
    exact ⟨rfl, b_call (b_alloc (Below.refl _ _)) hb1⟩
theorem sz_le {x b : Int} (h : sz x ≤ b) : -b ≤ x ∧ x ≤ b := by unfold sz at h; omega
set_option maxHeartbeats 1000000 in
theorem contact_any (ax ay bx by_ : Int) (w : World) (ha : vplace ax ay = true) (hb : vplace bx by_ = true) :
    Calls Tryz.prog 40 #[pval ax ay, pval bx by_] w fun e w' => e = .returned (.int .i64 (contact (ax - bx) (ay - by_))) ∧ Below w.heap.size w w' := by
  obtain ⟨p0, p1, p2, p3⟩ := place_bd ha
  obtain ⟨q0, q1, q2, q3⟩ := place_bd hb
  clear ha hb
  by_cases c0 : 19005440 < max (sz (ax - bx)) (sz (ay - by_))
  · have HC : Hid (contact (ax - bx) (ay - by_) = 1) := by
      show contact _ _ = _
      unfold contact
      rw [if_pos c0]
    rcases (by omega : (sz (ax - bx) < sz (ay - by_) ∧ 19005440 < sz (ay - by_)) ∨ (sz (ay - by_) ≤ sz (ax - bx) ∧ 19005440 < sz (ax - bx))) with ⟨c1, c2⟩ | ⟨c1, c2⟩
    all_goals
      clear c0
      go_enter Tryz.func40, Tryz.ntmps40
      go_wp2_with fail
      go_quiet (fail)
      go_wp2_with (go_at_call 56; refine (size_any _ _ (by omega) (by omega)).mono ?_; rintro e w' ⟨rfl, rfl⟩)
      go_ret
      exact ⟨ret_int HC.out.symm, by (repeat (first | (with_reducible exact Below.refl _ _) | (with_reducible assumption) | (with_reducible refine b_alloc ?_) | (with_reducible refine b_drew ?_) | (with_reducible refine b_drewN ?_) | (with_reducible refine b_set ?_ (by first | (simp; done) | (dsimp only; omega))) | (with_reducible refine b_call ?_ (by assumption))))⟩
  · have d1 : sz (ax - bx) ≤ 19005440 := by omega
    have d2 : sz (ay - by_) ≤ 19005440 := by omega
    obtain ⟨x0, x1⟩ := sz_le d1
    obtain ⟨y0, y1⟩ := sz_le d2
    obtain ⟨a0, a1⟩ := sq_bd (x := ax - bx) (by omega) (by omega)
    obtain ⟨b0, b1⟩ := sq_bd (x := ay - by_) (by omega) (by omega)
    have HK : Hid (contact (ax - bx) (ay - by_) = if (ax - bx) * (ax - bx) + (ay - by_) * (ay - by_) < 361206749593600 then -1 else if 361206749593600 < (ax - bx) * (ax - bx) + (ay - by_) * (ay - by_) then 1 else 0) := by
      show contact _ _ = _
      unfold contact
      rw [if_neg c0]
      rfl
    clear c0
    rcases (by omega : sz (ax - bx) < sz (ay - by_) ∨ sz (ay - by_) ≤ sz (ax - bx)) with c1 | c1
    all_goals
      rcases (by omega : (ax - bx) * (ax - bx) + (ay - by_) * (ay - by_) < 361206749593600 ∨ 361206749593600 < (ax - bx) * (ax - bx) + (ay - by_) * (ay - by_) ∨ (361206749593600 ≤ (ax - bx) * (ax - bx) + (ay - by_) * (ay - by_) ∧ (ax - bx) * (ax - bx) + (ay - by_) * (ay - by_) ≤ 361206749593600)) with t | t | ⟨t, t'⟩
    all_goals
      have HC : Hid (contact (ax - bx) (ay - by_) = _) := HK.out.trans (by first | rw [if_neg (by omega), if_neg (by omega)] | rw [if_neg (by omega), if_pos t] | rw [if_pos t])
      go_enter Tryz.func40, Tryz.ntmps40
      go_wp2_with fail
      go_quiet (fail)
      go_wp2_with (go_at_call 56; refine (size_any _ _ (by omega) (by omega)).mono ?_; rintro e w' ⟨rfl, rfl⟩)
      go_ret
      exact ⟨ret_int HC.out.symm, by (repeat (first | (with_reducible exact Below.refl _ _) | (with_reducible assumption) | (with_reducible refine b_alloc ?_) | (with_reducible refine b_drew ?_) | (with_reducible refine b_drewN ?_) | (with_reducible refine b_set ?_ (by first | (simp; done) | (dsimp only; omega))) | (with_reducible refine b_call ?_ (by assumption))))⟩
end Go.Proofs.YtbeapddadogfaaaGreatDoor
