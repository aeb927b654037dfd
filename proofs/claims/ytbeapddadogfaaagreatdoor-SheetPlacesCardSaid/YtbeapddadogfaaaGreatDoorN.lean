/-
  Who counts: the program's Count.
-/
import Derived.Test.YtbeapddadogfaaaGreatDoorM
set_option linter.unusedVariables false
set_option linter.unusedSimpArgs false
namespace Go.Proofs.YtbeapddadogfaaaGreatDoor
open Go.RowKit
open Sheet

theorem idxg_none {α : Type} {p : α → Bool} {l : List α} (h : ∀ j s, j < l.length → l[j]? = some s → p s = false) : idx (l.findIdx? p) = -1 := by
  have : l.findIdx? p = none := by
    rw [List.findIdx?_eq_none_iff]
    intro s hs
    obtain ⟨j, hj, rfl⟩ := List.mem_iff_getElem.1 hs
    simpa using h j _ hj (List.getElem?_eq_getElem hj)
  rw [this]
  rfl
theorem idxg_some {α : Type} {p : α → Bool} {l : List α} {k : Nat} {s : α} (hk : l[k]? = some s) (hs : p s = true) (h : ∀ j s, j < k → l[j]? = some s → p s = false) : idx (l.findIdx? p) = k := by
  have hlt : k < l.length := (List.getElem?_eq_some_iff.1 hk).1
  have : l.findIdx? p = some k := by
    rw [List.findIdx?_eq_some_iff_getElem]
    refine ⟨hlt, by rw [(List.getElem?_eq_some_iff.1 hk).2]; exact hs, fun j hj => ?_⟩
    simpa using h j _ hj (List.getElem?_eq_getElem (by omega))
  rw [this]
  rfl
set_option maxHeartbeats 1000000 in
theorem Count1_any (A : Option Addr) (cap T C : Nat) (l : List Sn) (t : Int) (i : Nat) (w : World) (hS : Stones w A l) (hT : w.cell? ⟨T, 0, none⟩ = some (.slice A l.length cap)) (hC : w.cell? ⟨C, 0, none⟩ = some (.int .i64 t)) (hi : i < l.length) :
    Calls Tryz.prog 67 #[.int .i64 i, .pointer (some ⟨T, 0, none⟩), .pointer (some ⟨C, 0, none⟩)] w fun e w' => e = .returned (.bool (teamAt l i != t)) ∧ Below w.heap.size w w' := by
  have hlen := hS.1
  have hTl := World.block_lt_of_cell? w _ hT
  have hCl := World.block_lt_of_cell? w _ hC
  obtain ⟨ad, a, rfl, hadb, ha, a0, a1, a2, a3⟩ := hS.at_ hi
  have hT' : ∀ p : Past w, p.W.cell? ⟨T, 0, none⟩ = some (.slice (some ad) l.length cap) := fun p => (past_cell p _ _ hTl).trans hT
  have hC' : ∀ p : Past w, p.W.cell? ⟨C, 0, none⟩ = some (.int .i64 t) := fun p => (past_cell p _ _ hCl).trans hC
  have pa0 : ∀ p : Past w, p.W.cell? (ad.add (i * 4)) = some (.int .i64 a.team) := fun p => (p.h.cell (p := ad.add (i * 4)) (by rw [add_block]; exact hadb)).trans a0
  have hta : Hid (teamAt l i = a.team) := by
    show teamAt l i = a.team
    unfold teamAt Sheet.get
    rw [ha]
    rfl
  have fin : Hid (∀ b : Bool, b = (a.team != t) → Ending.returned (.bool b) = Ending.returned (.bool (teamAt l i != t))) := fun b h => by rw [h, hta.out]
  clear hS a0 a1 a2 a3 ha hT hC
  rcases (by omega : a.team = t ∨ a.team ≠ t) with h | h
  · have hb : (a.team != t) = false := by simpa using h
    go_enter Tryz.func67, Tryz.ntmps67
    go_wp2_with fail
    (refine wp_region_past (by kernel_rfl) (by kernel_rfl) ?_; (repeat (first | go_big_quiet_step (fail) | quiet_step (fail))); refine wpQuiet_nil ?_; intro wq hq)
    go_wp2
    go_ret
    exact ⟨fin.out _ (by rw [hb]), hq⟩
  · have hb : (a.team != t) = true := by simpa using h
    go_enter Tryz.func67, Tryz.ntmps67
    go_wp2_with fail
    (refine wp_region_past (by kernel_rfl) (by kernel_rfl) ?_; (repeat (first | go_big_quiet_step (fail) | quiet_step (fail))); refine wpQuiet_nil ?_; intro wq hq)
    go_wp2
    go_ret
    exact ⟨fin.out _ (by rw [hb]), hq⟩
set_option maxHeartbeats 1000000 in
theorem IndexFunc_count (p : Nat → Bool) (c1 c2 : Value) (g cap : Nat) (xs : List Nat) (w : World) (hR : RowL w g xs) (hg : g < w.heap.size) (hlen : xs.length ≤ 1000000)
    (hp : ∀ x ∈ xs, ∀ W, Below w.heap.size w W → Calls Tryz.prog 67 #[.int .i64 (x : Int), c1, c2] W fun e W' => e = .returned (.bool (p x)) ∧ Below W.heap.size W W') :
    Calls Tryz.prog 66 #[.slice (some ⟨g, 0, none⟩) xs.length cap, .func (.func 67) #[] #[c1, c2]] w fun e w' => e = .returned (.int .i64 (idx (xs.findIdx? p))) ∧ Below w.heap.size w w' := by
  go_enter Tryz.func66, Tryz.ntmps66
  go_wp2
  go_loopw [8] (fun i wr => ∃ k : Nat, k ≤ xs.length ∧ i = .int .i64 k ∧ (∀ j s, j < k → xs[j]? = some s → p s = false) ∧ Below w.heap.size w wr)
    (fun i _ => xs.length - (intOf i).toNat)
  case atStart => exact ⟨0, by omega, rfl, fun j s hj => by omega, Below.refl _ _⟩
  case round =>
    obtain ⟨k, hk, rfl, hw, hb⟩ := hrel
    have hwH := Lib.hid hw
    clear hw
    by_cases hlt : k < xs.length
    · obtain ⟨x, hx⟩ : ∃ x, xs[k]? = some x := ⟨_, List.getElem?_eq_getElem hlt⟩
      have hc := (hb.cell (p := ⟨g, k, none⟩) hg).trans (hR k x hx).1
      have hcl := hp x (List.mem_of_getElem? hx) wr hb
      have hsH := Lib.hid hx
      clear hx
      obtain ⟨b, hbe⟩ : ∃ b, b = p x := ⟨_, rfl⟩
      rw [← hbe] at hcl
      have hbH := Lib.hid hbe
      clear hbe
      go_wp2_with fail
      refine hcl.mono ?_
      rintro e w1 ⟨rfl, hb1⟩
      clear hcl hc
      cases b with
      | true =>
        go_wp2
        go_ret
        exact ⟨ret_int (idxg_some hsH.out hbH.out.symm hwH.out).symm, b_call hb hb1⟩
      | false =>
        go_wp2
        go_roundw
        case rel =>
          refine ⟨k + 1, by omega, by go_num, fun j s' hj hs' => ?_, b_call hb hb1⟩
          rcases Nat.lt_or_ge j k with h1 | h1
          · exact hwH.out j s' h1 hs'
          · obtain rfl : j = k := by omega
            have e := hsH.out
            rw [e] at hs'
            cases hs'
            exact hbH.out.symm
        case measure => simp [intOf]; omega
    · obtain rfl : k = xs.length := by omega
      go_wp2
      go_ret
      exact ⟨ret_int (idxg_none hwH.out).symm, hb⟩
end Go.Proofs.YtbeapddadogfaaaGreatDoor
