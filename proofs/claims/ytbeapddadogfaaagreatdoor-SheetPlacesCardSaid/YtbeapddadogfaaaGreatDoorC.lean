/-
  Contracts of layer 2, the reference's: Playing, InHouse, Zone, OnCentre, contact, Contact; and the program's Contact.
-/
import Derived.Test.YtbeapddadogfaaaGreatDoorB
set_option linter.unusedVariables false
set_option linter.unusedSimpArgs false
namespace Go.Proofs.YtbeapddadogfaaaGreatDoor
open Go.RowKit
open Sheet

def contactR (ax ay bx by_ : Int) : Int := if vplace ax ay = true ∧ vplace bx by_ = true then contact (ax - bx) (ay - by_) else 0
def contactE (ax ay bx by_ : Int) : Int := if vplace ax ay = true ∧ vplace bx by_ = true then 0 else 2
theorem Contact_any (ax ay bx by_ : Int) (w : World) :
    Calls Tryz.prog 10 #[pval ax ay, pval bx by_] w fun e w' => e = .returned (.tuple #[.int .i64 (contactR ax ay bx by_), .int .i64 (contactE ax ay bx by_)]) ∧ Below w.heap.size w w' := by
  cases h1 : vplace ax ay with
  | true =>
    cases h2 : vplace bx by_ with
    | true =>
      have hz := fun w => contact_any ax ay bx by_ w h1 h2
      have e1 : contactR ax ay bx by_ = contact (ax - bx) (ay - by_) := by unfold contactR; rw [if_pos ⟨h1, h2⟩]
      have e2 : contactE ax ay bx by_ = 0 := by unfold contactE; rw [if_pos ⟨h1, h2⟩]
      rw [e1, e2]
      clear e1 e2
      go_enter Tryz.func10, Tryz.ntmps10
      go_wp2_with (first | (go_at_call 22; refine (CheckSpot_any _ _ _).mono ?_; rintro e w1 ⟨rfl, hb1⟩; obtain ⟨hc, hf⟩ := bcell hb1; have z0 : w.heap.size < w1.heap.size := (by have := hb1.size; (try simp at this); omega); have z1 : w.heap.size + 1 < w1.heap.size := (by have := hb1.size; (try simp at this); omega)))
      go_wp2_with (go_at_call 40; refine (hz _).mono ?_; rintro e w2 ⟨rfl, hb2⟩)
      go_ret2
      exact ⟨rfl, by (repeat (first | (with_reducible exact Below.refl _ _) | (with_reducible assumption) | (with_reducible refine b_alloc ?_) | (with_reducible refine b_drew ?_) | (with_reducible refine b_drewN ?_) | (with_reducible refine b_set ?_ (by first | (simp; done) | (dsimp only; omega))) | (with_reducible refine b_call ?_ (by assumption))))⟩
    | false =>
      have e1 : contactR ax ay bx by_ = 0 := by unfold contactR; rw [if_neg (by simp [h2])]
      have e2 : contactE ax ay bx by_ = 2 := by unfold contactE; rw [if_neg (by simp [h2])]
      rw [e1, e2]
      clear e1 e2
      go_enter Tryz.func10, Tryz.ntmps10
      go_wp2_with (first | (go_at_call 22; refine (CheckSpot_any _ _ _).mono ?_; rintro e w1 ⟨rfl, hb1⟩; obtain ⟨hc, hf⟩ := bcell hb1; have z0 : w.heap.size < w1.heap.size := (by have := hb1.size; (try simp at this); omega); have z1 : w.heap.size + 1 < w1.heap.size := (by have := hb1.size; (try simp at this); omega)))
      go_ret2
      exact ⟨rfl, by (repeat (first | (with_reducible exact Below.refl _ _) | (with_reducible assumption) | (with_reducible refine b_alloc ?_) | (with_reducible refine b_drew ?_) | (with_reducible refine b_drewN ?_) | (with_reducible refine b_set ?_ (by first | (simp; done) | (dsimp only; omega))) | (with_reducible refine b_call ?_ (by assumption))))⟩
  | false =>
    have e1 : contactR ax ay bx by_ = 0 := by unfold contactR; rw [if_neg (by simp [h1])]
    have e2 : contactE ax ay bx by_ = 2 := by unfold contactE; rw [if_neg (by simp [h1])]
    rw [e1, e2]
    clear e1 e2
    go_enter Tryz.func10, Tryz.ntmps10
    go_wp2_with (first | (go_at_call 22; refine (CheckSpot_any _ _ _).mono ?_; rintro e w1 ⟨rfl, hb1⟩; obtain ⟨hc, hf⟩ := bcell hb1; have z0 : w.heap.size < w1.heap.size := (by have := hb1.size; (try simp at this); omega); have z1 : w.heap.size + 1 < w1.heap.size := (by have := hb1.size; (try simp at this); omega)))
    go_ret2
    exact ⟨rfl, by (repeat (first | (with_reducible exact Below.refl _ _) | (with_reducible assumption) | (with_reducible refine b_alloc ?_) | (with_reducible refine b_drew ?_) | (with_reducible refine b_drewN ?_) | (with_reducible refine b_set ?_ (by first | (simp; done) | (dsimp only; omega))) | (with_reducible refine b_call ?_ (by assumption))))⟩
theorem sz_sq (x : Int) : sz x * sz x = x * x := by
  unfold sz
  rcases (by omega : max x (-x) = x ∨ max x (-x) = -x) with h | h <;> rw [h]
  rw [Int.neg_mul_neg]
set_option maxHeartbeats 1000000 in
theorem rcontact_any (ax ay bx by_ : Int) (w : World) (ha : vplace ax ay = true) (hb : vplace bx by_ = true) :
    Calls Tryz.prog 41 #[pval ax ay, pval bx by_] w fun e w' => e = .returned (.int .i64 (contact (ax - bx) (ay - by_))) ∧ Below w.heap.size w w' := by
  obtain ⟨p0, p1, p2, p3⟩ := place_bd ha
  obtain ⟨q0, q1, q2, q3⟩ := place_bd hb
  clear ha hb
  obtain ⟨sx0, sx1⟩ := sz_bd (ax - bx) 13107200000 (by omega) (by omega)
  obtain ⟨sy0, sy1⟩ := sz_bd (ay - by_) 13107200000 (by omega) (by omega)
  have e1 : IntKind.i64.wrap (ax - bx) = ax - bx := by rw [IntKind.wrap_i64]; omega
  have e2 : IntKind.i64.wrap (ay - by_) = ay - by_ := by rw [IntKind.wrap_i64]; omega
  by_cases c0 : 19005440 < max (sz (ax - bx)) (sz (ay - by_))
  · have HC : Hid (contact (ax - bx) (ay - by_) = 1) := by
      show contact _ _ = _
      unfold contact
      rw [if_pos c0]
    rcases (by omega : (19005440 < sz (ax - bx)) ∨ (sz (ax - bx) ≤ 19005440 ∧ 19005440 < sz (ay - by_))) with c1 | ⟨c1, c2⟩
    all_goals
      clear c0
      go_enter Tryz.func41, Tryz.ntmps41
      go_wp2_with fail
      go_quiet ((go_at_call 57; exact quiet_left (rSize_any _ _ (by omega) (by omega))))
      clear e1 e2
      go_wp2_with fail
      all_goals (go_ret; exact ⟨ret_int HC.out.symm, by (repeat (first | (with_reducible exact Below.refl _ _) | (with_reducible assumption) | (with_reducible refine b_alloc ?_) | (with_reducible refine b_drew ?_) | (with_reducible refine b_drewN ?_) | (with_reducible refine b_set ?_ (by first | (simp; done) | (dsimp only; omega))) | (with_reducible refine b_call ?_ (by assumption))))⟩)
  · have d1 : sz (ax - bx) ≤ 19005440 := by omega
    have d2 : sz (ay - by_) ≤ 19005440 := by omega
    have HK : Hid (contact (ax - bx) (ay - by_) = if sz (ax - bx) * sz (ax - bx) + sz (ay - by_) * sz (ay - by_) < 361206749593600 then -1 else if 361206749593600 < sz (ax - bx) * sz (ax - bx) + sz (ay - by_) * sz (ay - by_) then 1 else 0) := by
      show contact _ _ = _
      unfold contact
      rw [if_neg c0, sz_sq, sz_sq]
      rfl
    clear c0
    obtain ⟨a0, a1⟩ := sq_bd (x := sz (ax - bx)) (by omega) (by omega)
    obtain ⟨b0, b1⟩ := sq_bd (x := sz (ay - by_)) (by omega) (by omega)
    obtain ⟨T, hT⟩ : ∃ T, T = sz (ax - bx) * sz (ax - bx) + sz (ay - by_) * sz (ay - by_) - 361206749593600 := ⟨_, rfl⟩
    rcases (by omega : T < 0 ∨ T = 0 ∨ 0 < T) with t | t | t
    · have HC : Hid (contact (ax - bx) (ay - by_) = _) := HK.out.trans (by rw [if_pos (by omega)])
      have t1 : sz (ax - bx) * sz (ax - bx) + sz (ay - by_) * sz (ay - by_) - 361206749593600 < 0 := by omega
      clear hT t
      go_enter Tryz.func41, Tryz.ntmps41
      go_wp2_with fail
      go_quiet ((go_at_call 57; exact quiet_left (rSize_any _ _ (by omega) (by omega))))
      clear e1 e2
      go_wp2_with fail
      all_goals (go_ret; exact ⟨ret_int HC.out.symm, by (repeat (first | (with_reducible exact Below.refl _ _) | (with_reducible assumption) | (with_reducible refine b_alloc ?_) | (with_reducible refine b_drew ?_) | (with_reducible refine b_drewN ?_) | (with_reducible refine b_set ?_ (by first | (simp; done) | (dsimp only; omega))) | (with_reducible refine b_call ?_ (by assumption))))⟩)
    · have HC : Hid (contact (ax - bx) (ay - by_) = _) := HK.out.trans (by rw [if_neg (by omega), if_neg (by omega)])
      have t1 : 0 ≤ sz (ax - bx) * sz (ax - bx) + sz (ay - by_) * sz (ay - by_) - 361206749593600 := by omega
      have t2 : (sz (ax - bx) * sz (ax - bx) + sz (ay - by_) * sz (ay - by_) - 361206749593600 == 0) = true := by rw [beq_iff_eq]; omega
      clear hT t
      go_enter Tryz.func41, Tryz.ntmps41
      go_wp2_with fail
      go_quiet ((go_at_call 57; exact quiet_left (rSize_any _ _ (by omega) (by omega))))
      clear e1 e2
      go_wp2_with fail
      all_goals (go_ret; exact ⟨ret_int HC.out.symm, by (repeat (first | (with_reducible exact Below.refl _ _) | (with_reducible assumption) | (with_reducible refine b_alloc ?_) | (with_reducible refine b_drew ?_) | (with_reducible refine b_drewN ?_) | (with_reducible refine b_set ?_ (by first | (simp; done) | (dsimp only; omega))) | (with_reducible refine b_call ?_ (by assumption))))⟩)
    · have HC : Hid (contact (ax - bx) (ay - by_) = _) := HK.out.trans (by rw [if_neg (by omega), if_pos (by omega)])
      have t1 : 0 ≤ sz (ax - bx) * sz (ax - bx) + sz (ay - by_) * sz (ay - by_) - 361206749593600 := by omega
      have t2 : (sz (ax - bx) * sz (ax - bx) + sz (ay - by_) * sz (ay - by_) - 361206749593600 == 0) = false := by rw [beq_eq_false_iff_ne]; omega
      clear hT t
      go_enter Tryz.func41, Tryz.ntmps41
      go_wp2_with fail
      go_quiet ((go_at_call 57; exact quiet_left (rSize_any _ _ (by omega) (by omega))))
      clear e1 e2
      go_wp2_with fail
      all_goals (go_ret; exact ⟨ret_int HC.out.symm, by (repeat (first | (with_reducible exact Below.refl _ _) | (with_reducible assumption) | (with_reducible refine b_alloc ?_) | (with_reducible refine b_drew ?_) | (with_reducible refine b_drewN ?_) | (with_reducible refine b_set ?_ (by first | (simp; done) | (dsimp only; omega))) | (with_reducible refine b_call ?_ (by assumption))))⟩)
theorem rPlaying_any (x y : Int) (w : World) (h : vplace x y = true) :
    Calls Tryz.prog 55 #[pval x y] w fun e w' => e = .returned (.bool (!away x y)) ∧ Below w.heap.size w w' := by
  obtain ⟨p0, p1, p2, p3⟩ := place_bd h
  obtain ⟨s0, s1⟩ := sz_bd x 6553600000 p0 p1
  clear h
  go_enter Tryz.func55, Tryz.ntmps55
  go_wp2_with (go_at_call 57; refine (rSize_any _ _ (by omega) (by omega)).mono ?_; rintro e w' ⟨rfl, rfl⟩)
  all_goals (go_ret; refine ⟨ret_bool ?_, by (repeat (first | (with_reducible exact Below.refl _ _) | (with_reducible assumption) | (with_reducible refine b_alloc ?_) | (with_reducible refine b_drew ?_) | (with_reducible refine b_drewN ?_) | (with_reducible refine b_set ?_ (by first | (simp; done) | (dsimp only; omega))) | (with_reducible refine b_call ?_ (by assumption))))⟩; unfold away; rw [Bool.eq_iff_iff]; simp; omega)
end Go.Proofs.YtbeapddadogfaaaGreatDoor
