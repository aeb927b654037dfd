/-
  The order of the stones: the comparison, and the sort of a row of indices.
-/
import Derived.Test.YtbeapddadogfaaaGreatDoorH
import Derived.Test.YtbeapddadogfaaaGreatDoorPast
import Derived.Test.YtbeapddadogfaaaGreatDoorSel
set_option linter.unusedVariables false
set_option linter.unusedSimpArgs false
namespace Go.Proofs.YtbeapddadogfaaaGreatDoor
open Go.RowKit
open Sheet

/-- Stones in play: what squares need. -/
def Calm (l : List Sn) : Prop := ∀ s ∈ l, -2000000000 ≤ s.x ∧ s.x ≤ 2000000000 ∧ -2000000000 ≤ s.y ∧ s.y ≤ 2000000000
theorem calm_of {l : List Sn} (h : check l = true) : Calm l := fun s hs => by
  have hok : s.ok = true := by
    unfold check at h
    simp only [Bool.and_eq_true] at h
    have : ∀ (l pre : List Sn), soundFrom pre l = true → ∀ s ∈ l, s.ok = true := by
      intro l
      induction l with
      | nil => intro _ _ s hs; cases hs
      | cons a r ih =>
        intro pre h s hs
        simp only [soundFrom, Bool.and_eq_true] at h
        rcases List.mem_cons.1 hs with rfl | hs
        · exact h.1.1
        · exact ih _ h.2 s hs
    exact this l [] h.1.2 s hs
  have := play_bd (ok_parts hok).2.2.2
  omega
def cmp3 (a b : Int) : Int := if a < b then -1 else if b < a then 1 else 0
theorem get_of {l : List Sn} {i : Nat} {s : Sn} (h : l[i]? = some s) : keyAt l i = sq s.x s.y := by unfold keyAt Sheet.get; rw [h]; rfl
set_option maxHeartbeats 1000000 in
set_option maxRecDepth 100000 in
theorem nearest1_any (A : Option Addr) (cap T : Nat) (l : List Sn) (i k : Nat) (w : World) (hS : Stones w A l) (hc : Calm l) (hT : w.cell? ⟨T, 0, none⟩ = some (.slice A l.length cap)) (hi : i < l.length) (hk : k < l.length) :
    Calls Tryz.prog 84 #[.int .i64 i, .int .i64 k, .pointer (some ⟨T, 0, none⟩)] w fun e w' => e = .returned (.int .i64 (cmp3 (keyAt l i) (keyAt l k))) ∧ Below w.heap.size w w' := by
  have hlen := hS.1
  have hTl := World.block_lt_of_cell? w _ hT
  obtain ⟨ad, a, rfl, hadb, ha, a0, a1, a2, a3⟩ := hS.at_ hi
  obtain ⟨ad', b, e', _, hb, b0, b1, b2, b3⟩ := hS.at_ hk
  cases e'
  have ka := get_of ha
  have kb := get_of hb
  obtain ⟨ca0, ca1, ca2, ca3⟩ := hc a (List.mem_of_getElem? ha)
  obtain ⟨cb0, cb1, cb2, cb3⟩ := hc b (List.mem_of_getElem? hb)
  have hT' : ∀ p : Past w, p.W.cell? ⟨T, 0, none⟩ = some (.slice (some ad) l.length cap) := fun p => (past_cell p _ _ hTl).trans hT
  have hbl : ∀ n, (ad.add n).block < w.heap.size := fun n => by rw [add_block]; exact hadb
  have pa2 : ∀ p : Past w, p.W.cell? ⟨(ad.add (i * 4)).block, (ad.add (i * 4)).off + 2, none⟩ = some (.int .i64 a.x) := fun p => (past_cell p _ _ (hbl _)).trans a2
  have pa3 : ∀ p : Past w, p.W.cell? ⟨(ad.add (i * 4)).block, (ad.add (i * 4)).off + 3, none⟩ = some (.int .i64 a.y) := fun p => (past_cell p _ _ (hbl _)).trans a3
  have pb2 : ∀ p : Past w, p.W.cell? ⟨(ad.add (k * 4)).block, (ad.add (k * 4)).off + 2, none⟩ = some (.int .i64 b.x) := fun p => (past_cell p _ _ (hbl _)).trans b2
  have pb3 : ∀ p : Past w, p.W.cell? ⟨(ad.add (k * 4)).block, (ad.add (k * 4)).off + 3, none⟩ = some (.int .i64 b.y) := fun p => (past_cell p _ _ (hbl _)).trans b3
  have hsq : ∀ (x y : Int) (W : World), -2000000000 ≤ x → x ≤ 2000000000 → -2000000000 ≤ y → y ≤ 2000000000 → Calls Tryz.prog 68 #[pval x y] W fun e w' => e = .returned (.int .i64 (sq x y)) ∧ Below W.heap.size W w' := fun x y W h1 h2 h3 h4 => square_any x y W h1 h2 h3 h4
  have hsqH := Lib.hid hsq
  rw [ka, kb]
  clear hS hc ka kb hsq a0 a1 a2 a3 b0 b1 b2 b3 ha hb hT
  go_enter Tryz.func84, Tryz.ntmps84
  go_wp2_with fail
  (refine wp_region_past (by kernel_rfl) (by kernel_rfl) ?_; (repeat (first | go_big_quiet_step ((go_at_call 68; exact past_call _ (hsqH.out _ _ _ (by assumption) (by assumption) (by assumption) (by assumption)))) | quiet_step ((go_at_call 68; exact past_call _ (hsqH.out _ _ _ (by assumption) (by assumption) (by assumption) (by assumption)))))); refine wpQuiet_nil ?_; intro wq hq)
  have fin : ∀ v : Int, v = cmp3 (sq a.x a.y) (sq b.x b.y) → Ending.returned (.int .i64 v) = Ending.returned (.int .i64 (cmp3 (sq a.x a.y) (sq b.x b.y))) := fun v h => by rw [h]
  have finH := Lib.hid fin
  clear fin
  rcases (by omega : sq a.x a.y < sq b.x b.y ∨ (sq b.x b.y ≤ sq a.x a.y ∧ sq b.x b.y < sq a.x a.y) ∨ (sq b.x b.y ≤ sq a.x a.y ∧ sq a.x a.y ≤ sq b.x b.y)) with t | ⟨t, t'⟩ | ⟨t, t'⟩
  all_goals
    go_wp2
    go_ret
    exact ⟨finH.out _ (by unfold cmp3; first | rw [if_pos t] | rw [if_neg (by omega), if_pos t'] | rw [if_neg (by omega), if_neg (by omega)]), hq⟩
end Go.Proofs.YtbeapddadogfaaaGreatDoor
