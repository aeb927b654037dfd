/-
  The walk of SheetPlaces.
-/
import Derived.Test.YtbeapddadogfaaaGreatDoorW
import Derived.Test.YtbeapddadogfaaaGreatDoorPast
set_option linter.unusedVariables false
set_option linter.unusedSimpArgs false
namespace Go.Proofs.YtbeapddadogfaaaGreatDoor
open Go.RowKit Sheet

def zoneR (x y : Int) : Int := if vplace x y = true then zone x y else 0
def zoneE (x y : Int) : Int := if vplace x y = true then 0 else 2
def centR (x y : Int) : Bool := vplace x y && centre x y
theorem places_neg (x y : Int) : zoneR (-x) y = zoneR x y ∧ zoneE (-x) y = zoneE x y ∧ centR (-x) y = centR x y := by
  unfold zoneR zoneE centR
  rw [vplace_neg, zone_neg, centre_neg]
  exact ⟨rfl, rfl, rfl⟩
set_option maxHeartbeats 2000000 in
set_option maxRecDepth 100000 in
theorem SheetPlaces_walk (x y : Int) (w : World) (hE : Env w) : Calls Tryz.prog 5 #[pval x y] w fun e w' => e = .returned (.bool true) ∧ Below w.heap.size w w' := by
  have hz : Hid (∀ a b W, Calls Tryz.prog 18 #[pval a b] W fun e w' => e = .returned (.tuple #[.int .i64 (zoneR a b), .int .i64 (zoneE a b)]) ∧ Below W.heap.size W w') := fun a b W => Zone_any a b W
  have hrz : Hid (∀ a b W, Calls Tryz.prog 19 #[pval a b] W fun e w' => e = .returned (.tuple #[.int .i64 (zoneR a b), .int .i64 (zoneE a b)]) ∧ Below W.heap.size W w') := fun a b W => rZone_any a b W
  have hc : Hid (∀ a b W, Calls Tryz.prog 20 #[pval a b] W fun e w' => e = .returned (.tuple #[.bool (centR a b), .int .i64 (zoneE a b)]) ∧ Below W.heap.size W w') := fun a b W => OnCentre_any a b W
  have hrc : Hid (∀ a b W, Calls Tryz.prog 21 #[pval a b] W fun e w' => e = .returned (.tuple #[.bool (centR a b), .int .i64 (zoneE a b)]) ∧ Below W.heap.size W w') := fun a b W => rOnCentre_any a b W
  obtain ⟨n1, n2, n3⟩ := places_neg x y
  have haw := Lib.hid (fun W (h : Below w.heap.size w W) => awake_any W (hE.below h))
  clear hE
  have hvH : Hid (zoneE x y = if vplace x y = true then 0 else 2) := rfl
  obtain ⟨V, hV⟩ : ∃ V, V = vplace x y := ⟨_, rfl⟩
  have hcs : Hid (∀ W, Calls Tryz.prog 22 #[pval x y] W fun e w' => e = .returned (.bool V) ∧ Below W.heap.size W w') := fun W => hV ▸ CheckSpot_any x y W
  have hrs : Hid (∀ W, Calls Tryz.prog 23 #[pval x y] W fun e w' => e = .returned (.bool V) ∧ Below W.heap.size W w') := fun W => hV ▸ rCheckSpot_any x y W
  have hxb : V = true → -9223372036854775807 ≤ x ∧ x ≤ 9223372036854775807 := fun h => by
    rw [hV] at h
    obtain ⟨p0, p1, _, _⟩ := place_bd h
    omega
  have hE0 : V = true → zoneE x y = 0 := fun h => by rw [hvH.out, ← hV, h]; rfl
  have hE2 : V = false → zoneE x y = 2 := fun h => by rw [hvH.out, ← hV, h]; rfl
  have hbb : (V != V) = false := by simp
  have hcc : (centR x y != centR x y) = false := by simp
  clear hvH hV
  have hmain : ∀ _u : Unit, (V = true ∧ zoneE x y = 0 ∧ -9223372036854775807 ≤ x ∧ x ≤ 9223372036854775807) ∨ (V = false ∧ zoneE x y = 2) := fun _ => by
    cases V with
    | true => exact .inl ⟨rfl, hE0 rfl, hxb rfl⟩
    | false => exact .inr ⟨rfl, hE2 rfl⟩
  have hm := hmain ()
  clear hmain hE0 hE2 hxb
  rcases hm with ⟨hV, he, hx1, hx2⟩ | ⟨hV, he⟩
  · subst hV
    go_enter Tryz.func5, Tryz.ntmps5
    go_wp2_with (first
      | (go_at_call 18; refine (hz.out _ _ _).mono ?_; rintro e w1 ⟨rfl, hb1⟩; obtain ⟨hc1, hf1⟩ := bcell hb1; have z0 : w.heap.size < w1.heap.size := (by have := hb1.size; (try simp at this); omega))
      | (go_at_call 19; refine (hrz.out _ _ _).mono ?_; rintro e w2 ⟨rfl, hb2⟩; obtain ⟨hc2, hf2⟩ := bcell hb2; have z2 : w.heap.size < w2.heap.size := (by have := hb2.size; (try simp at this); omega))
      | (go_at_call 20; refine (hc.out _ _ _).mono ?_; rintro e w3 ⟨rfl, hb3⟩; obtain ⟨hc3, hf3⟩ := bcell hb3; have z3 : w.heap.size < w3.heap.size := (by have := hb3.size; (try simp at this); omega))
      | (go_at_call 21; refine (hrc.out _ _ _).mono ?_; rintro e w4 ⟨rfl, hb4⟩; obtain ⟨hc4, hf4⟩ := bcell hb4; have z4 : w.heap.size < w4.heap.size := (by have := hb4.size; (try simp at this); omega)))
    have q0 : w4.cell? ⟨w.heap.size, 0, none⟩ = some (.int .i64 x) := (hc4 _ _ z3).trans ((hc3 _ _ z2).trans ((hc2 _ _ z0).trans ((hc1 _ _ (by simp)).trans (by simp [go_sem]))))
    have q1 : w4.cell? ⟨w.heap.size, 1, none⟩ = some (.int .i64 y) := (hc4 _ _ z3).trans ((hc3 _ _ z2).trans ((hc2 _ _ z0).trans ((hc1 _ _ (by simp)).trans (by simp [go_sem]))))
    have qf : ∀ o, w4.frozen? ⟨w.heap.size, o, none⟩ = false := fun o => (hf4 _ _ z3).trans ((hf3 _ _ z2).trans ((hf2 _ _ z0).trans ((hf1 _ _ (by simp)).trans (by simp [go_sem]))))
    have hB4 : Below w.heap.size w w4 := b_call (b_call (b_call (b_call (b_alloc (Below.refl _ _)) hb1) hb2) hb3) hb4
    have p0 : ∀ p : Past w4, p.W.cell? ⟨w.heap.size, 0, none⟩ = some (.int .i64 x) := fun p => (past_cell p _ _ z4).trans q0
    have p1 : ∀ p : Past w4, p.W.cell? ⟨w.heap.size, 1, none⟩ = some (.int .i64 y) := fun p => (past_cell p _ _ z4).trans q1
    clear hc1 hc2 hc3 hc4 hf1 hf2 hf3 hf4 hb1 hb2 hb3 hb4 z0 z2 z3
    (refine wp_region_past (by kernel_rfl) (by kernel_rfl) ?_; (repeat (first | go_big_quiet_step ((first | (go_at_call 22; exact past_call _ (hcs.out _)) | (go_at_call 23; exact past_call _ (hrs.out _)))) | quiet_step ((first | (go_at_call 22; exact past_call _ (hcs.out _)) | (go_at_call 23; exact past_call _ (hrs.out _)))))); refine wpQuiet_nil ?_; intro wq hq)
    have r0 := (hq.cell (p := ⟨w.heap.size, 0, none⟩) z4).trans q0
    have r1 := (hq.cell (p := ⟨w.heap.size, 1, none⟩) z4).trans q1
    have rf0 := (hq.frozen (p := ⟨w.heap.size, 0, none⟩) z4).trans (qf 0)
    have zq : w.heap.size < wq.heap.size := Nat.lt_of_lt_of_le z4 hq.size
    have hBq : Below w.heap.size w wq := b_call hB4 hq
    clear q0 q1 qf p0 p1 hq hB4 z4
    go_wp2_with (first
      | (go_at_call 18; refine (hz.out _ _ _).mono ?_; rintro e w5 ⟨rfl, hb5⟩; obtain ⟨hc5, hf5⟩ := bcell hb5; have z5 : w.heap.size < w5.heap.size := (by have := hb5.size; (try simp at this); omega))
      | (go_at_call 20; refine (hc.out _ _ _).mono ?_; rintro e w6 ⟨rfl, hb6⟩)
      | (go_at_call 12; refine (haw.out _ (by (repeat (first | (with_reducible exact Below.refl _ _) | (with_reducible assumption) | (with_reducible refine b_alloc ?_) | (with_reducible refine b_drew ?_) | (with_reducible refine b_drewN ?_) | (with_reducible refine b_set ?_ (by first | (simp; done) | (dsimp only; omega))) | (with_reducible refine b_call ?_ (by assumption)))))).mono ?_; rintro e w7 ⟨rfl, hb7⟩))
    go_ret
    exact ⟨rfl, by (repeat (first | (with_reducible exact Below.refl _ _) | (with_reducible assumption) | (with_reducible refine b_alloc ?_) | (with_reducible refine b_drew ?_) | (with_reducible refine b_drewN ?_) | (with_reducible refine b_set ?_ (by first | (simp; done) | (dsimp only; omega))) | (with_reducible refine b_call ?_ (by assumption))))⟩
  · subst hV
    go_enter Tryz.func5, Tryz.ntmps5
    go_wp2_with (first
      | (go_at_call 18; refine (hz.out _ _ _).mono ?_; rintro e w1 ⟨rfl, hb1⟩; obtain ⟨hc1, hf1⟩ := bcell hb1; have z0 : w.heap.size < w1.heap.size := (by have := hb1.size; (try simp at this); omega))
      | (go_at_call 19; refine (hrz.out _ _ _).mono ?_; rintro e w2 ⟨rfl, hb2⟩; obtain ⟨hc2, hf2⟩ := bcell hb2; have z2 : w.heap.size < w2.heap.size := (by have := hb2.size; (try simp at this); omega))
      | (go_at_call 20; refine (hc.out _ _ _).mono ?_; rintro e w3 ⟨rfl, hb3⟩; obtain ⟨hc3, hf3⟩ := bcell hb3; have z3 : w.heap.size < w3.heap.size := (by have := hb3.size; (try simp at this); omega))
      | (go_at_call 21; refine (hrc.out _ _ _).mono ?_; rintro e w4 ⟨rfl, hb4⟩; obtain ⟨hc4, hf4⟩ := bcell hb4; have z4 : w.heap.size < w4.heap.size := (by have := hb4.size; (try simp at this); omega)))
    have q0 : w4.cell? ⟨w.heap.size, 0, none⟩ = some (.int .i64 x) := (hc4 _ _ z3).trans ((hc3 _ _ z2).trans ((hc2 _ _ z0).trans ((hc1 _ _ (by simp)).trans (by simp [go_sem]))))
    have q1 : w4.cell? ⟨w.heap.size, 1, none⟩ = some (.int .i64 y) := (hc4 _ _ z3).trans ((hc3 _ _ z2).trans ((hc2 _ _ z0).trans ((hc1 _ _ (by simp)).trans (by simp [go_sem]))))
    have qf : ∀ o, w4.frozen? ⟨w.heap.size, o, none⟩ = false := fun o => (hf4 _ _ z3).trans ((hf3 _ _ z2).trans ((hf2 _ _ z0).trans ((hf1 _ _ (by simp)).trans (by simp [go_sem]))))
    have hB4 : Below w.heap.size w w4 := b_call (b_call (b_call (b_call (b_alloc (Below.refl _ _)) hb1) hb2) hb3) hb4
    have p0 : ∀ p : Past w4, p.W.cell? ⟨w.heap.size, 0, none⟩ = some (.int .i64 x) := fun p => (past_cell p _ _ z4).trans q0
    have p1 : ∀ p : Past w4, p.W.cell? ⟨w.heap.size, 1, none⟩ = some (.int .i64 y) := fun p => (past_cell p _ _ z4).trans q1
    clear hc1 hc2 hc3 hc4 hf1 hf2 hf3 hf4 hb1 hb2 hb3 hb4 z0 z2 z3
    (refine wp_region_past (by kernel_rfl) (by kernel_rfl) ?_; (repeat (first | go_big_quiet_step ((first | (go_at_call 22; exact past_call _ (hcs.out _)) | (go_at_call 23; exact past_call _ (hrs.out _)))) | quiet_step ((first | (go_at_call 22; exact past_call _ (hcs.out _)) | (go_at_call 23; exact past_call _ (hrs.out _)))))); refine wpQuiet_nil ?_; intro wq hq)
    have r0 := (hq.cell (p := ⟨w.heap.size, 0, none⟩) z4).trans q0
    have r1 := (hq.cell (p := ⟨w.heap.size, 1, none⟩) z4).trans q1
    have rf0 := (hq.frozen (p := ⟨w.heap.size, 0, none⟩) z4).trans (qf 0)
    have zq : w.heap.size < wq.heap.size := Nat.lt_of_lt_of_le z4 hq.size
    have hBq : Below w.heap.size w wq := b_call hB4 hq
    clear q0 q1 qf p0 p1 hq hB4 z4
    go_wp2_with (go_at_call 12; refine (haw.out _ (by (repeat (first | (with_reducible exact Below.refl _ _) | (with_reducible assumption) | (with_reducible refine b_alloc ?_) | (with_reducible refine b_drew ?_) | (with_reducible refine b_drewN ?_) | (with_reducible refine b_set ?_ (by first | (simp; done) | (dsimp only; omega))) | (with_reducible refine b_call ?_ (by assumption)))))).mono ?_; rintro e w7 ⟨rfl, hb7⟩)
    go_ret
    exact ⟨rfl, by (repeat (first | (with_reducible exact Below.refl _ _) | (with_reducible assumption) | (with_reducible refine b_alloc ?_) | (with_reducible refine b_drew ?_) | (with_reducible refine b_drewN ?_) | (with_reducible refine b_set ?_ (by first | (simp; done) | (dsimp only; omega))) | (with_reducible refine b_call ?_ (by assumption))))⟩
end Go.Proofs.YtbeapddadogfaaaGreatDoor
