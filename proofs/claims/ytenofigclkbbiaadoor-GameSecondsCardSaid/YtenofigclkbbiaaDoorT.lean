/-
  Two slices of integers compared.
-/
import Derived.Test.YtenofigclkbbiaaDoorC
import Derived.BigRegion
set_option linter.unusedVariables false
set_option linter.unusedSimpArgs false
namespace Go.Proofs.YtenofigclkbbiaaDoor
open Go.RowKit
open Game
/-- A slice of integers that can be read. -/
def Rd (w : World) (A : Option Addr) (xs : List Int) : Prop :=
  xs.length ≤ 4611686018427387904 ∧ (0 < xs.length → ∃ ad, A = some ad ∧ ∀ i x, xs[i]? = some x → w.cell? (ad.add i) = some (.int .i64 x))
theorem Rd.below {B : Nat} {w W : World} {A : Option Addr} {xs : List Int} (h : Rd w A xs) (hb : Below B w W) (hA : ∀ ad, A = some ad → ad.block < B) : Rd W A xs := by
  refine ⟨h.1, fun hn => ?_⟩
  obtain ⟨ad, e, hc⟩ := h.2 hn
  exact ⟨ad, e, fun i x hx => (hb.cell (by rw [add_block]; exact hA ad e)).trans (hc i x hx)⟩
set_option maxHeartbeats 2000000 in
theorem Ints_any (A B : Option Addr) (ca cb : Nat) (xs ys : List Int) (w : World) (ha : Rd w A xs) (hb : Rd w B ys) :
    Calls Tryd.prog 19 #[.slice A xs.length ca, .slice B ys.length cb] w fun e w' => e = .returned (.bool (decide (xs = ys))) ∧ Below w.heap.size w w' := by
  have la := ha.1
  have lb := hb.1
  by_cases hl : xs.length = ys.length
  · rw [← hl]
    go_enter Tryd.func19, Tryd.ntmps19
    go_wp2
    go_loopw [5] (fun i wr => ∃ k : Nat, k ≤ xs.length ∧ i = .int .i64 k ∧ xs.take k = ys.take k ∧ Below w.heap.size w wr ∧ (∀ a, wr.cell? a = w.cell? a))
      (fun i _ => xs.length - (intOf i).toNat)
    case atStart => exact ⟨0, by omega, rfl, rfl, by (repeat (first | (with_reducible exact Below.refl _ _) | (with_reducible assumption) | (with_reducible refine b_alloc ?_) | (with_reducible refine b_drew ?_) | (with_reducible refine b_drewN ?_) | (with_reducible refine b_set ?_ (by first | (simp; done) | (dsimp only; omega))) | (with_reducible refine b_call ?_ (by assumption)))), fun _ => rfl⟩
    case round =>
      obtain ⟨k, hk, rfl, ht, hB, hcells⟩ := hrel
      by_cases hlt : k < xs.length
      · obtain ⟨ad, rfl, hca⟩ := ha.2 (by omega)
        obtain ⟨bd, rfl, hcb⟩ := hb.2 (by omega)
        obtain ⟨p, hp⟩ : ∃ p, xs[k]? = some p := ⟨_, List.getElem?_eq_getElem hlt⟩
        obtain ⟨q, hq⟩ : ∃ q, ys[k]? = some q := ⟨_, List.getElem?_eq_getElem (by omega)⟩
        have ea := (hcells _).trans (hca k p hp)
        have eb := (hcells _).trans (hcb k q hq)
        have htk : xs.take (k + 1) = ys.take (k + 1) ↔ p = q := by
          rw [List.take_add_one, List.take_add_one, ht, hp, hq]
          exact ⟨fun h => by simpa using List.append_cancel_left h, fun h => by rw [h]⟩
        have hne : p ≠ q → xs ≠ ys := by
          rintro h rfl
          rw [hp] at hq
          exact h (Option.some.inj hq)
        have hce := Lib.hid hcells
        clear hca hcb hp hq ha hb ht hcells
        by_cases hpq : p = q
        · have hq : (p != q) = false := by simpa using hpq
          have hk1 := htk.2 hpq
          clear htk hne
          go_wp2
          go_region
          all_goals go_wp2
          all_goals go_roundw
          case rel => exact ⟨k + 1, by omega, by go_num, hk1, by (repeat (first | (with_reducible exact Below.refl _ _) | (with_reducible assumption) | (with_reducible refine b_alloc ?_) | (with_reducible refine b_drew ?_) | (with_reducible refine b_drewN ?_) | (with_reducible refine b_set ?_ (by first | (simp; done) | (dsimp only; omega))) | (with_reducible refine b_call ?_ (by assumption)))), fun a => hce.out a⟩
          case measure => simp [intOf]; omega
        · have hq : (p != q) = true := by simpa using hpq
          have hne := hne hpq
          clear htk
          go_wp2
          go_region
          all_goals go_wp2
          all_goals (go_ret; exact ⟨by simp [hne], by (repeat (first | (with_reducible exact Below.refl _ _) | (with_reducible assumption) | (with_reducible refine b_alloc ?_) | (with_reducible refine b_drew ?_) | (with_reducible refine b_drewN ?_) | (with_reducible refine b_set ?_ (by first | (simp; done) | (dsimp only; omega))) | (with_reducible refine b_call ?_ (by assumption))))⟩)
      · have hkl : k = xs.length := by omega
        subst hkl
        have hxy : xs = ys := by
          rw [List.take_length, hl, List.take_length] at ht
          exact ht
        go_wp2
        go_ret
        exact ⟨by simp [hxy], by (repeat (first | (with_reducible exact Below.refl _ _) | (with_reducible assumption) | (with_reducible refine b_alloc ?_) | (with_reducible refine b_drew ?_) | (with_reducible refine b_drewN ?_) | (with_reducible refine b_set ?_ (by first | (simp; done) | (dsimp only; omega))) | (with_reducible refine b_call ?_ (by assumption))))⟩
  · go_enter Tryd.func19, Tryd.ntmps19
    go_wp2
    all_goals (go_ret; exact ⟨by simp; intro h; exact hl (by rw [h]), by (repeat (first | (with_reducible exact Below.refl _ _) | (with_reducible assumption) | (with_reducible refine b_alloc ?_) | (with_reducible refine b_drew ?_) | (with_reducible refine b_drewN ?_) | (with_reducible refine b_set ?_ (by first | (simp; done) | (dsimp only; omega))) | (with_reducible refine b_call ?_ (by assumption))))⟩)
end Go.Proofs.YtenofigclkbbiaaDoor
