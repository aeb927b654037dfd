/-
  Contracts of layer 2, the reference's: InHouse, Zone, OnCentre, Contact.
-/
import Derived.Test.YtbeapddadogfaaaGreatDoorC
set_option linter.unusedVariables false
set_option linter.unusedSimpArgs false
namespace Go.Proofs.YtbeapddadogfaaaGreatDoor
open Go.RowKit
open Sheet

def inHouse (x y : Int) : Bool := zone x y == 2
theorem inHouse_away {x y : Int} (h : away x y = true) : inHouse x y = false := by unfold inHouse zone; rw [if_pos h]; rfl
theorem inHouse_play {x y : Int} (h : away x y = false) : inHouse x y = decide (sq x y ≤ 16736095983108096) := by
  unfold inHouse zone
  rw [if_neg (by rw [h]; decide)]
  by_cases hq : sq x y ≤ 16736095983108096
  · rw [if_pos hq]; simp [hq]
  · rw [if_neg hq]; split <;> simp [hq]
theorem rInHouse_any (x y : Int) (w : World) (h : vplace x y = true) :
    Calls Tryz.prog 32 #[pval x y] w fun e w' => e = .returned (.bool (inHouse x y)) ∧ Below w.heap.size w w' := by
  have hp := fun w => rPlaying_any x y w h
  clear h
  cases ha : away x y with
  | true =>
    have hr := Lib.hid (inHouse_away ha)
    rw [ha] at hp
    clear ha
    go_enter Tryz.func32, Tryz.ntmps32
    go_wp2_with (go_at_call 55; refine (hp _).mono ?_; rintro e w1 ⟨rfl, hb1⟩)
    go_ret
    exact ⟨ret_bool hr.out.symm, by (repeat (first | (with_reducible exact Below.refl _ _) | (with_reducible assumption) | (with_reducible refine b_alloc ?_) | (with_reducible refine b_drew ?_) | (with_reducible refine b_drewN ?_) | (with_reducible refine b_set ?_ (by first | (simp; done) | (dsimp only; omega))) | (with_reducible refine b_call ?_ (by assumption))))⟩
  | false =>
    have hb := play_bd ha
    have hr := Lib.hid (inHouse_play ha)
    rw [ha] at hp
    clear ha
    have hq : ∀ w : World, Calls Tryz.prog 33 #[pval x y] w fun e w' => e = .returned (.int .i64 (sq x y)) ∧ Below w.heap.size w w' := fun w => rSquare_any x y w (by omega) (by omega) (by omega) (by omega)
    clear hb
    go_enter Tryz.func32, Tryz.ntmps32
    go_wp2_with (first | (go_at_call 55; refine (hp _).mono ?_; rintro e w1 ⟨rfl, hb1⟩; obtain ⟨hc, hf⟩ := bcell hb1) | (go_at_call 33; refine (hq _).mono ?_; rintro e w2 ⟨rfl, hb2⟩))
    go_ret
    exact ⟨ret_bool (by rw [hr.out]), by (repeat (first | (with_reducible exact Below.refl _ _) | (with_reducible assumption) | (with_reducible refine b_alloc ?_) | (with_reducible refine b_drew ?_) | (with_reducible refine b_drewN ?_) | (with_reducible refine b_set ?_ (by first | (simp; done) | (dsimp only; omega))) | (with_reducible refine b_call ?_ (by assumption))))⟩
theorem rZone_any (x y : Int) (w : World) :
    Calls Tryz.prog 19 #[pval x y] w fun e w' => e = .returned (.tuple #[.int .i64 (if vplace x y = true then zone x y else 0), .int .i64 (if vplace x y = true then 0 else 2)]) ∧ Below w.heap.size w w' := by
  cases h : vplace x y with
  | true =>
    simp only [if_true]
    have hp := fun w => rPlaying_any x y w h
    have hh := fun w => rInHouse_any x y w h
    obtain ⟨p0, p1, p2, p3⟩ := place_bd h
    cases ha : away x y with
    | true =>
      have hr := Lib.hid (zone_away ha)
      rw [ha] at hp
      clear ha
      go_enter Tryz.func19, Tryz.ntmps19
      go_wp2_with (first | (go_at_call 23; refine (rCheckSpot_any _ _ _).mono ?_; rintro e w1 ⟨rfl, hb1⟩; obtain ⟨hc, hf⟩ := bcell hb1) | (go_at_call 55; refine (hp _).mono ?_; rintro e w2 ⟨rfl, hb2⟩; obtain ⟨hc2, hf2⟩ := bcell hb2; have z0 : w.heap.size < w1.heap.size := by (have := hb1.size; simp at this; omega)))
      go_ret2
      exact ⟨ret_ti hr.out.symm, by (repeat (first | (with_reducible exact Below.refl _ _) | (with_reducible assumption) | (with_reducible refine b_alloc ?_) | (with_reducible refine b_drew ?_) | (with_reducible refine b_drewN ?_) | (with_reducible refine b_set ?_ (by first | (simp; done) | (dsimp only; omega))) | (with_reducible refine b_call ?_ (by assumption))))⟩
    | false =>
      have hr : zone x y = if sq x y ≤ 16736095983108096 then 2 else if y + 9502720 < 0 then 1 else 3 := by unfold zone; rw [if_neg (by rw [ha]; decide)]
      have hr := Lib.hid hr
      rw [inHouse_play ha] at hh
      rw [ha] at hp
      clear ha
      obtain ⟨q, hqe⟩ : ∃ q, q = sq x y := ⟨_, rfl⟩
      rw [← hqe] at hh
      have hqe := Lib.hid hqe
      by_cases c1 : q ≤ 16736095983108096
      · rw [decide_eq_true c1] at hh
        have hz : zone x y = 2 := by rw [hr.out, ← hqe.out, if_pos c1]
        have hz := Lib.hid hz
        go_enter Tryz.func19, Tryz.ntmps19
        go_wp2_with (first | (go_at_call 23; refine (rCheckSpot_any _ _ _).mono ?_; rintro e w1 ⟨rfl, hb1⟩; obtain ⟨hc, hf⟩ := bcell hb1) | (go_at_call 55; refine (hp _).mono ?_; rintro e w2 ⟨rfl, hb2⟩; obtain ⟨hc2, hf2⟩ := bcell hb2; have z0 : w.heap.size < w1.heap.size := by (have := hb1.size; simp at this; omega)) | (go_at_call 32; refine (hh _).mono ?_; rintro e w3 ⟨rfl, hb3⟩; obtain ⟨hc3, hf3⟩ := bcell hb3; have z1 : w.heap.size < w2.heap.size := by (have := hb2.size; omega)))
        go_ret2
        exact ⟨ret_ti hz.out.symm, by (repeat (first | (with_reducible exact Below.refl _ _) | (with_reducible assumption) | (with_reducible refine b_alloc ?_) | (with_reducible refine b_drew ?_) | (with_reducible refine b_drewN ?_) | (with_reducible refine b_set ?_ (by first | (simp; done) | (dsimp only; omega))) | (with_reducible refine b_call ?_ (by assumption))))⟩
      · rw [decide_eq_false c1] at hh
        rcases (by omega : y + 9502720 < 0 ∨ 0 ≤ y + 9502720) with c2 | c2
        all_goals
          have hz : Hid (zone x y = _) := (hr.out.trans (by rw [← hqe.out, if_neg c1] : _ = if y + 9502720 < 0 then (1 : Int) else 3)).trans (by first | exact if_pos c2 | exact if_neg (by omega))
          clear c1
          go_enter Tryz.func19, Tryz.ntmps19
          go_wp2_with (first | (go_at_call 23; refine (rCheckSpot_any _ _ _).mono ?_; rintro e w1 ⟨rfl, hb1⟩; obtain ⟨hc, hf⟩ := bcell hb1) | (go_at_call 55; refine (hp _).mono ?_; rintro e w2 ⟨rfl, hb2⟩; obtain ⟨hc2, hf2⟩ := bcell hb2; have z0 : w.heap.size < w1.heap.size := by (have := hb1.size; simp at this; omega)) | (go_at_call 32; refine (hh _).mono ?_; rintro e w3 ⟨rfl, hb3⟩; obtain ⟨hc3, hf3⟩ := bcell hb3; have z1 : w.heap.size < w2.heap.size := by (have := hb2.size; omega)))
          go_ret2
          exact ⟨ret_ti hz.out.symm, by (repeat (first | (with_reducible exact Below.refl _ _) | (with_reducible assumption) | (with_reducible refine b_alloc ?_) | (with_reducible refine b_drew ?_) | (with_reducible refine b_drewN ?_) | (with_reducible refine b_set ?_ (by first | (simp; done) | (dsimp only; omega))) | (with_reducible refine b_call ?_ (by assumption))))⟩
  | false =>
    simp only [Bool.false_eq_true, if_false]
    go_enter Tryz.func19, Tryz.ntmps19
    go_wp2_with (first | (go_at_call 23; refine (rCheckSpot_any _ _ _).mono ?_; rintro e w1 ⟨rfl, hb1⟩; obtain ⟨hc, hf⟩ := bcell hb1))
    go_ret2
    exact ⟨rfl, by (repeat (first | (with_reducible exact Below.refl _ _) | (with_reducible assumption) | (with_reducible refine b_alloc ?_) | (with_reducible refine b_drew ?_) | (with_reducible refine b_drewN ?_) | (with_reducible refine b_set ?_ (by first | (simp; done) | (dsimp only; omega))) | (with_reducible refine b_call ?_ (by assumption))))⟩
theorem rOnCentre_any (x y : Int) (w : World) :
    Calls Tryz.prog 21 #[pval x y] w fun e w' => e = .returned (.tuple #[.bool (vplace x y && centre x y), .int .i64 (if vplace x y = true then 0 else 2)]) ∧ Below w.heap.size w w' := by
  cases h : vplace x y with
  | true =>
    simp only [if_true, Bool.true_and]
    have hp := fun w => rPlaying_any x y w h
    obtain ⟨p0, p1, p2, p3⟩ := place_bd h
    obtain ⟨s0, s1⟩ := sz_bd x 6553600000 p0 p1
    have hr : centre x y = (!away x y && decide (sz x ≤ 9502720)) := rfl
    have hr := Lib.hid hr
    cases ha : away x y with
    | true =>
      rw [ha] at hp hr
      clear ha
      go_enter Tryz.func21, Tryz.ntmps21
      go_wp2_with (first | (go_at_call 23; refine (rCheckSpot_any _ _ _).mono ?_; rintro e w1 ⟨rfl, hb1⟩; obtain ⟨hc, hf⟩ := bcell hb1) | (go_at_call 55; refine (hp _).mono ?_; rintro e w2 ⟨rfl, hb2⟩; obtain ⟨hc2, hf2⟩ := bcell hb2; have z0 : w.heap.size < w1.heap.size := by (have := hb1.size; simp at this; omega)))
      go_ret2
      exact ⟨ret_tb (by rw [hr.out]; rfl), by (repeat (first | (with_reducible exact Below.refl _ _) | (with_reducible assumption) | (with_reducible refine b_alloc ?_) | (with_reducible refine b_drew ?_) | (with_reducible refine b_drewN ?_) | (with_reducible refine b_set ?_ (by first | (simp; done) | (dsimp only; omega))) | (with_reducible refine b_call ?_ (by assumption))))⟩
    | false =>
      rw [ha] at hp hr
      clear ha
      go_enter Tryz.func21, Tryz.ntmps21
      go_wp2_with (first | (go_at_call 23; refine (rCheckSpot_any _ _ _).mono ?_; rintro e w1 ⟨rfl, hb1⟩; obtain ⟨hc, hf⟩ := bcell hb1) | (go_at_call 55; refine (hp _).mono ?_; rintro e w2 ⟨rfl, hb2⟩; obtain ⟨hc2, hf2⟩ := bcell hb2; have z0 : w.heap.size < w1.heap.size := by (have := hb1.size; simp at this; omega)) | (go_at_call 57; refine (rSize_any _ _ (by omega) (by omega)).mono ?_; rintro e w' ⟨rfl, rfl⟩))
      all_goals (go_ret2; exact ⟨ret_tb (by rw [hr.out]; (try rfl); (try simp [*])), by (repeat (first | (with_reducible exact Below.refl _ _) | (with_reducible assumption) | (with_reducible refine b_alloc ?_) | (with_reducible refine b_drew ?_) | (with_reducible refine b_drewN ?_) | (with_reducible refine b_set ?_ (by first | (simp; done) | (dsimp only; omega))) | (with_reducible refine b_call ?_ (by assumption))))⟩)
  | false =>
    simp only [Bool.false_eq_true, if_false, Bool.false_and]
    go_enter Tryz.func21, Tryz.ntmps21
    go_wp2_with (first | (go_at_call 23; refine (rCheckSpot_any _ _ _).mono ?_; rintro e w1 ⟨rfl, hb1⟩; obtain ⟨hc, hf⟩ := bcell hb1))
    go_ret2
    exact ⟨rfl, by (repeat (first | (with_reducible exact Below.refl _ _) | (with_reducible assumption) | (with_reducible refine b_alloc ?_) | (with_reducible refine b_drew ?_) | (with_reducible refine b_drewN ?_) | (with_reducible refine b_set ?_ (by first | (simp; done) | (dsimp only; omega))) | (with_reducible refine b_call ?_ (by assumption))))⟩
theorem rContact_any (ax ay bx by_ : Int) (w : World) :
    Calls Tryz.prog 11 #[pval ax ay, pval bx by_] w fun e w' => e = .returned (.tuple #[.int .i64 (contactR ax ay bx by_), .int .i64 (contactE ax ay bx by_)]) ∧ Below w.heap.size w w' := by
  cases h1 : vplace ax ay with
  | true =>
    cases h2 : vplace bx by_ with
    | true =>
      have hz := fun w => rcontact_any ax ay bx by_ w h1 h2
      have e1 : contactR ax ay bx by_ = contact (ax - bx) (ay - by_) := by unfold contactR; rw [if_pos ⟨h1, h2⟩]
      have e2 : contactE ax ay bx by_ = 0 := by unfold contactE; rw [if_pos ⟨h1, h2⟩]
      rw [e1, e2]
      clear e1 e2
      go_enter Tryz.func11, Tryz.ntmps11
      go_wp2_with (first | (go_at_call 23; refine (rCheckSpot_any _ _ _).mono ?_; rintro e w1 ⟨rfl, hb1⟩; obtain ⟨hc, hf⟩ := bcell hb1; have z0 : w.heap.size < w1.heap.size := (by have := hb1.size; (try simp at this); omega); have z1 : w.heap.size + 1 < w1.heap.size := (by have := hb1.size; (try simp at this); omega)))
      go_wp2_with (go_at_call 41; refine (hz _).mono ?_; rintro e w2 ⟨rfl, hb2⟩)
      go_ret2
      exact ⟨rfl, by (repeat (first | (with_reducible exact Below.refl _ _) | (with_reducible assumption) | (with_reducible refine b_alloc ?_) | (with_reducible refine b_drew ?_) | (with_reducible refine b_drewN ?_) | (with_reducible refine b_set ?_ (by first | (simp; done) | (dsimp only; omega))) | (with_reducible refine b_call ?_ (by assumption))))⟩
    | false =>
      have e1 : contactR ax ay bx by_ = 0 := by unfold contactR; rw [if_neg (by simp [h2])]
      have e2 : contactE ax ay bx by_ = 2 := by unfold contactE; rw [if_neg (by simp [h2])]
      rw [e1, e2]
      clear e1 e2
      go_enter Tryz.func11, Tryz.ntmps11
      go_wp2_with (first | (go_at_call 23; refine (rCheckSpot_any _ _ _).mono ?_; rintro e w1 ⟨rfl, hb1⟩; obtain ⟨hc, hf⟩ := bcell hb1; have z0 : w.heap.size < w1.heap.size := (by have := hb1.size; (try simp at this); omega); have z1 : w.heap.size + 1 < w1.heap.size := (by have := hb1.size; (try simp at this); omega)))
      go_ret2
      exact ⟨rfl, by (repeat (first | (with_reducible exact Below.refl _ _) | (with_reducible assumption) | (with_reducible refine b_alloc ?_) | (with_reducible refine b_drew ?_) | (with_reducible refine b_drewN ?_) | (with_reducible refine b_set ?_ (by first | (simp; done) | (dsimp only; omega))) | (with_reducible refine b_call ?_ (by assumption))))⟩
  | false =>
    have e1 : contactR ax ay bx by_ = 0 := by unfold contactR; rw [if_neg (by simp [h1])]
    have e2 : contactE ax ay bx by_ = 2 := by unfold contactE; rw [if_neg (by simp [h1])]
    rw [e1, e2]
    clear e1 e2
    go_enter Tryz.func11, Tryz.ntmps11
    go_wp2_with (first | (go_at_call 23; refine (rCheckSpot_any _ _ _).mono ?_; rintro e w1 ⟨rfl, hb1⟩; obtain ⟨hc, hf⟩ := bcell hb1; have z0 : w.heap.size < w1.heap.size := (by have := hb1.size; (try simp at this); omega); have z1 : w.heap.size + 1 < w1.heap.size := (by have := hb1.size; (try simp at this); omega)))
    go_ret2
    exact ⟨rfl, by (repeat (first | (with_reducible exact Below.refl _ _) | (with_reducible assumption) | (with_reducible refine b_alloc ?_) | (with_reducible refine b_drew ?_) | (with_reducible refine b_drewN ?_) | (with_reducible refine b_set ?_ (by first | (simp; done) | (dsimp only; omega))) | (with_reducible refine b_call ?_ (by assumption))))⟩
end Go.Proofs.YtbeapddadogfaaaGreatDoor
