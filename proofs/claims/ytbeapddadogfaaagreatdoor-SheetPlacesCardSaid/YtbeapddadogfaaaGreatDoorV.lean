/-
  awake of layer 2.
-/
import Derived.Test.YtbeapddadogfaaaGreatDoorT
import Derived.Test.YtbeapddadogfaaaGreatDoorU
import Derived.Test.YtbeapddadogfaaaGreatDoorO
set_option linter.unusedVariables false
set_option linter.unusedSimpArgs false
namespace Go.Proofs.YtbeapddadogfaaaGreatDoor
open Go.RowKit Sheet

theorem at_any (x y : Int) (hx : -100000 ≤ x ∧ x ≤ 100000) (hy : -100000 ≤ y ∧ y ≤ 100000) (w : World) :
    Calls Tryz.prog 42 #[.int .i64 x, .int .i64 y] w fun e w' => e = .returned (pval (x * 65536) (y * 65536)) ∧ Below w.heap.size w w' := by
  obtain ⟨h1, h2⟩ := hx
  obtain ⟨h3, h4⟩ := hy
  go_enter Tryz.func42, Tryz.ntmps42
  go_wp2
  exact bodyPost_ret (v := pval (x * 65536) (y * 65536)) (by simp [results, Tryz.results42, go_sem]) rfl ⟨rfl, by (repeat (first | (with_reducible exact Below.refl _ _) | (with_reducible assumption) | (with_reducible refine b_alloc ?_) | (with_reducible refine b_drew ?_) | (with_reducible refine b_drewN ?_) | (with_reducible refine b_set ?_ (by first | (simp; done) | (dsimp only; omega))) | (with_reducible refine b_call ?_ (by assumption))))⟩
theorem stones_lit (l : List Sn) (hl : l.length ≤ 1000) (cs : Array Value) (hcs : cs.toList = flat l) {W : World} {g : Nat} (h : W.heap[g]? = some (.cells cs 53 (0, 0))) : Stones W (some ⟨g, 0, none⟩) l := by
  refine ⟨by omega, fun _ => ⟨_, rfl, (Array.getElem?_eq_some_iff.1 h).1, fun i s hs => ?_⟩⟩
  obtain ⟨f0, f1, f2, f3⟩ := flat_at l i s hs
  have hc : ∀ p u, (flat l)[p]? = some u → cs[p]? = some u := fun p u hp => by
    rw [← hcs, Array.getElem?_toList] at hp
    exact hp
  have e : (⟨g, 0, none⟩ : Addr).add (i * 4) = ⟨g, i * 4, none⟩ := by unfold Addr.add; split <;> simp_all
  rw [e]
  refine ⟨?_, ?_, ?_, ?_⟩
  · simp [World.cell?, h, hc _ _ f0]
  · simp [World.cell?, h, hc _ _ f1]
  · simp [World.cell?, h, hc _ _ f2]
  · simp [World.cell?, h, hc _ _ f3]
/-- The position of awake. -/
def wake : List Sn := [⟨0, 0, 0, 0⟩, ⟨0, 1, 0, 26214400⟩, ⟨1, 0, 0, 65536000⟩, ⟨1, 1, 19660800, 0⟩]
def wake1 : List Sn := [⟨1, 2, 0, -1⟩]
def bits (l : List UInt8) : ByteArray := ⟨l.toArray⟩
theorem wake_zone : (if vplace 0 129368064 = true then zone 0 129368064 else 0) = 2 ∧ (if vplace 0 129368064 = true then (0 : Int) else 2) = 0 ∧
    (if vplace 0 129368065 = true then zone 0 129368065 else 0) = 0 ∧ (if vplace 0 129368065 = true then (0 : Int) else 2) = 0 ∧
    (if vplace 0 (-129368065) = true then zone 0 (-129368065) else 0) = 1 ∧ (if vplace 0 (-129368065) = true then (0 : Int) else 2) = 0 := by decide
theorem wake_contact : contactR 0 0 19005440 0 = 0 ∧ contactE 0 0 19005440 0 = 0 := by decide
theorem wake_count : countR wake = (0, 1) ∧ countE wake = 0 := by decide +kernel
theorem wake_print : print wake1 = ([121, 51, 32, 48, 32, 45, 49, 10], 0) := by decide +kernel
theorem wake_parse : parse [114, 49, 32, 48, 32, 48, 10, 114, 49, 32, 48, 32, 48, 48, 10] = ([], 7, 5) := by decide +kernel
set_option maxHeartbeats 4000000 in
set_option maxRecDepth 100000 in
theorem awake_any (w : World) (hE : Env w) : Calls Tryz.prog 12 #[] w fun e w' => e = .returned (.bool true) ∧ Below w.heap.size w w' := by
  have hz1 : Hid (∀ W, Calls Tryz.prog 18 #[pval 0 129368064] W fun e w' => e = .returned (.tuple #[.int .i64 2, .int .i64 0]) ∧ Below W.heap.size W w') := fun W => (Zone_any 0 129368064 W).mono fun e w' ⟨he, hb⟩ => ⟨he.trans (by rw [wake_zone.1, wake_zone.2.1]), hb⟩
  have hz2 : Hid (∀ W, Calls Tryz.prog 18 #[pval 0 129368065] W fun e w' => e = .returned (.tuple #[.int .i64 0, .int .i64 0]) ∧ Below W.heap.size W w') := fun W => (Zone_any 0 129368065 W).mono fun e w' ⟨he, hb⟩ => ⟨he.trans (by rw [wake_zone.2.2.1, wake_zone.2.2.2.1]), hb⟩
  have hz3 : Hid (∀ W, Calls Tryz.prog 18 #[pval 0 (-129368065)] W fun e w' => e = .returned (.tuple #[.int .i64 1, .int .i64 0]) ∧ Below W.heap.size W w') := fun W => (Zone_any 0 (-129368065) W).mono fun e w' ⟨he, hb⟩ => ⟨he.trans (by rw [wake_zone.2.2.2.2.1, wake_zone.2.2.2.2.2]), hb⟩
  have hct : Hid (∀ W, Calls Tryz.prog 10 #[pval 0 0, pval 19005440 0] W fun e w' => e = .returned (.tuple #[.int .i64 0, .int .i64 0]) ∧ Below W.heap.size W w') := fun W => (Contact_any 0 0 19005440 0 W).mono fun e w' ⟨he, hb⟩ => ⟨he.trans (by rw [wake_contact.1, wake_contact.2]), hb⟩
  have hcn : Hid (∀ W g, W.heap[g]? = some (.cells (flat wake).toArray 53 (0, 0)) → Calls Tryz.prog 30 #[.slice (some ⟨g, 0, none⟩) 4 4] W fun e w' => e = .returned (.tuple #[.int .i64 0, .int .i64 1, .int .i64 0]) ∧ Below W.heap.size W w') := fun W g h =>
    (Count_any (some ⟨g, 0, none⟩) 4 wake W (stones_lit wake (by decide) _ rfl h) (by decide) (by decide)).mono fun e w' ⟨he, hb⟩ => ⟨he.trans (by rw [wake_count.1, wake_count.2]), hb⟩
  have hpr : Hid (∀ W g, Below w.heap.size w W → W.heap[g]? = some (.cells (flat wake1).toArray 53 (0, 0)) → Calls Tryz.prog 13 #[.slice (some ⟨g, 0, none⟩) 1 1] W fun e w' => e = .returned (.tuple #[.string ⟨#[121, 51, 32, 48, 32, 45, 49, 10]⟩, .int .i64 0]) ∧ Below W.heap.size W w') := fun W g hb h =>
    (Print_any (some ⟨g, 0, none⟩) 1 wake1 W (stones_lit wake1 (by decide) _ rfl h) (by decide) (by decide) (hE.below hb)).mono fun e w' ⟨he, hb⟩ => ⟨he.trans (by rw [wake_print]), hb⟩
  have hpa : Hid (∀ W, Below w.heap.size w W → Calls Tryz.prog 15 #[.string ⟨#[114, 49, 32, 48, 32, 48, 10, 114, 49, 32, 48, 32, 48, 48, 10]⟩] W fun e w' => ∃ v, e = .returned (.tuple #[v, .int .i64 7, .int .i64 5]) ∧ Below W.heap.size W w') := fun W hb =>
    (Parse_any ⟨#[114, 49, 32, 48, 32, 48, 10, 114, 49, 32, 48, 32, 48, 48, 10]⟩ (by decide) W (hE.below hb)).mono fun e w' ⟨v, he, hm, hb⟩ => by
      have hp : parse (⟨#[114, 49, 32, 48, 32, 48, 10, 114, 49, 32, 48, 32, 48, 48, 10]⟩ : ByteArray).data.toList = ([], 7, 5) := wake_parse
      rw [hp] at he
      exact ⟨v, he, hb⟩
  have ha : ∀ (x y : Int) (W : World), -100000 ≤ x ∧ x ≤ 100000 → -100000 ≤ y ∧ y ≤ 100000 → Calls Tryz.prog 42 #[.int .i64 x, .int .i64 y] W fun e w' => e = .returned (pval (x * 65536) (y * 65536)) ∧ Below W.heap.size W w' := fun x y W hx hy => at_any x y hx hy W
  have haH := Lib.hid ha
  clear ha
  go_enter Tryz.func12, Tryz.ntmps12
  go_wp2_with (first
    | (go_at_call 42; refine (haH.out _ _ _ (by decide) (by decide)).mono ?_; rintro e w1 ⟨rfl, hb1⟩)
    | (go_at_call 18; refine (hz1.out _).mono ?_; rintro e w2 ⟨rfl, hb2⟩)
    | (go_at_call 18; refine (hz2.out _).mono ?_; rintro e w2 ⟨rfl, hb2⟩)
    | (go_at_call 18; refine (hz3.out _).mono ?_; rintro e w2 ⟨rfl, hb2⟩)
    | (go_at_call 10; refine (hct.out _).mono ?_; rintro e w2 ⟨rfl, hb2⟩)
    | (go_at_call 30; refine (hcn.out _ _ (alloc_at _ _)).mono ?_; rintro e w2 ⟨rfl, hb2⟩)
    | (go_at_call 13; refine (hpr.out _ _ (by (repeat (first | (with_reducible exact Below.refl _ _) | (with_reducible assumption) | (with_reducible refine b_alloc ?_) | (with_reducible refine b_drew ?_) | (with_reducible refine b_drewN ?_) | (with_reducible refine b_set ?_ (by first | (simp; done) | (dsimp only; omega))) | (with_reducible refine b_call ?_ (by assumption))))) (alloc_at _ _)).mono ?_; rintro e w2 ⟨rfl, hb2⟩)
    | (go_at_call 15; refine (hpa.out _ (by (repeat (first | (with_reducible exact Below.refl _ _) | (with_reducible assumption) | (with_reducible refine b_alloc ?_) | (with_reducible refine b_drew ?_) | (with_reducible refine b_drewN ?_) | (with_reducible refine b_set ?_ (by first | (simp; done) | (dsimp only; omega))) | (with_reducible refine b_call ?_ (by assumption)))))).mono ?_; rintro e w2 ⟨v2, rfl, hb2⟩))
  go_ret
  exact ⟨rfl, by (repeat (first | (with_reducible exact Below.refl _ _) | (with_reducible assumption) | (with_reducible refine b_alloc ?_) | (with_reducible refine b_drew ?_) | (with_reducible refine b_drewN ?_) | (with_reducible refine b_set ?_ (by first | (simp; done) | (dsimp only; omega))) | (with_reducible refine b_call ?_ (by assumption))))⟩
end Go.Proofs.YtbeapddadogfaaaGreatDoor
