/-
  The walks of SheetContacts and SheetPlaces.
-/
import Derived.Test.YtbeapddadogfaaaGreatDoorV
import Derived.Test.YtbeapddadogfaaaGreatDoorD
set_option linter.unusedVariables false
set_option linter.unusedSimpArgs false
namespace Go.Proofs.YtbeapddadogfaaaGreatDoor
open Go.RowKit Sheet

theorem sz_neg (x : Int) : sz (-x) = sz x := by unfold sz; rw [Int.neg_neg, Int.max_comm]
theorem contact_neg (dx dy : Int) : contact (-dx) (-dy) = contact dx dy := by
  unfold contact sq
  rw [sz_neg, sz_neg, Int.neg_mul_neg, Int.neg_mul_neg]
theorem contact_swap (ax ay bx by_ : Int) : contactR bx by_ ax ay = contactR ax ay bx by_ ∧ contactE bx by_ ax ay = contactE ax ay bx by_ := by
  unfold contactR contactE
  have e : contact (bx - ax) (by_ - ay) = contact (ax - bx) (ay - by_) := by
    rw [← contact_neg (ax - bx), show -(ax - bx) = bx - ax by omega, show -(ay - by_) = by_ - ay by omega]
  rw [e]
  constructor
  · by_cases h : vplace ax ay = true ∧ vplace bx by_ = true
    · rw [if_pos h, if_pos ⟨h.2, h.1⟩]
    · rw [if_neg h, if_neg (fun h' => h ⟨h'.2, h'.1⟩)]
  · by_cases h : vplace ax ay = true ∧ vplace bx by_ = true
    · rw [if_pos h, if_pos ⟨h.2, h.1⟩]
    · rw [if_neg h, if_neg (fun h' => h ⟨h'.2, h'.1⟩)]
theorem vplace_neg (x y : Int) : vplace (-x) y = vplace x y := by
  unfold vplace wi
  rw [Bool.eq_iff_iff]
  simp
  omega
theorem zone_neg (x y : Int) : zone (-x) y = zone x y := by
  unfold zone away sq
  rw [sz_neg, Int.neg_mul_neg]
theorem centre_neg (x y : Int) : centre (-x) y = centre x y := by
  unfold centre
  have : away (-x) y = away x y := by unfold away; rw [sz_neg]
  rw [this, sz_neg]
set_option maxHeartbeats 2000000 in
set_option maxRecDepth 100000 in
theorem SheetContacts_walk (ax ay bx by_ : Int) (w : World) (hE : Env w) : Calls Tryz.prog 3 #[pval ax ay, pval bx by_] w fun e w' => e = .returned (.bool true) ∧ Below w.heap.size w w' := by
  obtain ⟨hR, hEr⟩ := contact_swap ax ay bx by_
  have h1 := Lib.hid (fun a b c d W => Contact_any a b c d W)
  have h2 := Lib.hid (fun a b c d W => rContact_any a b c d W)
  have haw := Lib.hid (fun W (h : Below w.heap.size w W) => awake_any W (hE.below h))
  clear hE
  go_enter Tryz.func3, Tryz.ntmps3
  go_wp2_with (first
    | (go_at_call 10; refine (h1.out _ _ _ _ _).mono ?_; rintro e w1 ⟨rfl, hb1⟩; obtain ⟨hc, hf⟩ := bcell hb1; have z0 : w.heap.size < w1.heap.size := (by have := hb1.size; (try simp at this); omega); have z1 : w.heap.size + 1 < w1.heap.size := (by have := hb1.size; (try simp at this); omega))
    | (go_at_call 11; refine (h2.out _ _ _ _ _).mono ?_; rintro e w2 ⟨rfl, hb2⟩; obtain ⟨hc2, hf2⟩ := bcell hb2; have z2 : w.heap.size < w2.heap.size := (by have := hb2.size; (try simp at this); omega); have z3 : w.heap.size + 1 < w2.heap.size := (by have := hb2.size; (try simp at this); omega))
    | (go_at_call 12; refine (haw.out _ (by (repeat (first | (with_reducible exact Below.refl _ _) | (with_reducible assumption) | (with_reducible refine b_alloc ?_) | (with_reducible refine b_drew ?_) | (with_reducible refine b_drewN ?_) | (with_reducible refine b_set ?_ (by first | (simp; done) | (dsimp only; omega))) | (with_reducible refine b_call ?_ (by assumption)))))).mono ?_; rintro e w4 ⟨rfl, hb4⟩))
  go_ret
  exact ⟨rfl, by (repeat (first | (with_reducible exact Below.refl _ _) | (with_reducible assumption) | (with_reducible refine b_alloc ?_) | (with_reducible refine b_drew ?_) | (with_reducible refine b_drewN ?_) | (with_reducible refine b_set ?_ (by first | (simp; done) | (dsimp only; omega))) | (with_reducible refine b_call ?_ (by assumption))))⟩
end Go.Proofs.YtbeapddadogfaaaGreatDoor
