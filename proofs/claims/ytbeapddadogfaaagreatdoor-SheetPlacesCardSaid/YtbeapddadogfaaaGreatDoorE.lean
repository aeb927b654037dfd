/-
  Stones in memory; the search through them by a closure.
-/
import Derived.Test.YtbeapddadogfaaaGreatDoorD
import Derived.Deep.Slices
set_option linter.unusedVariables false
set_option linter.unusedSimpArgs false
namespace Go.Proofs.YtbeapddadogfaaaGreatDoor
open Go.RowKit
open Sheet

theorem add_block (a : Addr) (n : Nat) : (a.add n).block = a.block := by unfold Addr.add; split <;> rfl
/-- A stone's four cells. -/
def SnAt (w : World) (a : Addr) (s : Sn) : Prop :=
  w.cell? a = some (.int .i64 s.team) ∧ w.cell? ⟨a.block, a.off + 1, none⟩ = some (.int .i64 s.n) ∧ w.cell? ⟨a.block, a.off + 2, none⟩ = some (.int .i64 s.x) ∧ w.cell? ⟨a.block, a.off + 3, none⟩ = some (.int .i64 s.y)
theorem SnAt.below {w W : World} {a : Addr} {s : Sn} {B : Nat} (h : SnAt w a s) (hb : Below B w W) (hB : a.block < B) : SnAt W a s :=
  ⟨(hb.cell hB).trans h.1, (hb.cell (p := ⟨a.block, a.off + 1, none⟩) hB).trans h.2.1, (hb.cell (p := ⟨a.block, a.off + 2, none⟩) hB).trans h.2.2.1, (hb.cell (p := ⟨a.block, a.off + 3, none⟩) hB).trans h.2.2.2⟩
/-- Stones in memory. -/
def Stones (w : World) (A : Option Addr) (l : List Sn) : Prop :=
  l.length ≤ 1099511627776 ∧ (0 < l.length → ∃ ad, A = some ad ∧ ad.block < w.heap.size ∧ ∀ i s, l[i]? = some s → SnAt w (ad.add (i * 4)) s)
theorem Stones.at_ {w : World} {A : Option Addr} {l : List Sn} (h : Stones w A l) {i : Nat} (hi : i < l.length) : ∃ ad s, A = some ad ∧ ad.block < w.heap.size ∧ l[i]? = some s ∧ SnAt w (ad.add (i * 4)) s := by
  obtain ⟨ad, e, hb, hc⟩ := h.2 (by omega)
  exact ⟨ad, l[i], e, hb, List.getElem?_eq_getElem hi, hc i _ (List.getElem?_eq_getElem hi)⟩
theorem Stones.below {w W : World} {A : Option Addr} {l : List Sn} (h : Stones w A l) (hb : Below w.heap.size w W) : Stones W A l := by
  refine ⟨h.1, fun hn => ?_⟩
  obtain ⟨ad, e, hlt, hc⟩ := h.2 hn
  exact ⟨ad, e, Nat.lt_of_lt_of_le hlt hb.size, fun i s hs => (hc i s hs).below hb (by rw [add_block]; exact hlt)⟩
theorem Stones.drop {w : World} {A A' : Option Addr} {l : List Sn} (h : Stones w A l) (k : Nat) (hA : k < l.length → ∀ ad, A = some ad → A' = some (ad.add (k * 4))) : Stones w A' (l.drop k) := by
  refine ⟨by have := h.1; simp; omega, fun hn => ?_⟩
  simp at hn
  obtain ⟨ad, e, hlt, hc⟩ := h.2 (by omega)
  refine ⟨ad.add (k * 4), hA (by omega) ad e, by rw [add_block]; exact hlt, fun i s hs => ?_⟩
  rw [List.getElem?_drop] at hs
  have := hc (k + i) s hs
  rw [Go.Deep.add_add]
  rwa [show k * 4 + i * 4 = (k + i) * 4 by omega]
def idx : Option Nat → Int
  | some k => k
  | none => -1
theorem idx_none {p : Sn → Bool} {l : List Sn} (h : ∀ j s, j < l.length → l[j]? = some s → p s = false) : idx (l.findIdx? p) = -1 := by
  have : l.findIdx? p = none := by
    rw [List.findIdx?_eq_none_iff]
    intro s hs
    obtain ⟨j, hj, rfl⟩ := List.mem_iff_getElem.1 hs
    simpa using h j _ hj (List.getElem?_eq_getElem hj)
  rw [this]
  rfl
theorem idx_some {p : Sn → Bool} {l : List Sn} {k : Nat} {s : Sn} (hk : l[k]? = some s) (hs : p s = true) (h : ∀ j s, j < k → l[j]? = some s → p s = false) : idx (l.findIdx? p) = k := by
  have hlt : k < l.length := (List.getElem?_eq_some_iff.1 hk).1
  have : l.findIdx? p = some k := by
    rw [List.findIdx?_eq_some_iff_getElem]
    refine ⟨hlt, by rw [(List.getElem?_eq_some_iff.1 hk).2]; exact hs, fun j hj => ?_⟩
    simpa using h j _ hj (List.getElem?_eq_getElem (by omega))
  rw [this]
  rfl
/-- A closure over two boxes that answers a predicate. -/
def Pred (g : FuncId) (c1 c2 : Value) (p : Sn → Bool) (w : World) : Prop :=
  ∀ (s : Sn) (W : World), Below w.heap.size w W → Calls Tryz.prog g #[sval s, c1, c2] W fun e W' => e = .returned (.bool (p s)) ∧ Below W.heap.size W W'
set_option maxHeartbeats 1000000 in
theorem IndexFunc_pair (p : Sn → Bool) (c1 c2 : Value) (A : Option Addr) (cap : Nat) (l : List Sn) (w : World) (hS : Stones w A l) (hp : Pred 81 c1 c2 p w) :
    Calls Tryz.prog 61 #[.slice A l.length cap, .func (.func 81) #[] #[c1, c2]] w fun e w' => e = .returned (.int .i64 (idx (l.findIdx? p))) ∧ Below w.heap.size w w' := by
  have hlen := hS.1
  go_enter Tryz.func61, Tryz.ntmps61
  go_wp2
  go_loopw [8] (fun i wr => ∃ k : Nat, k ≤ l.length ∧ i = .int .i64 k ∧ (∀ j s, j < k → l[j]? = some s → p s = false) ∧ Below w.heap.size w wr)
    (fun i _ => l.length - (intOf i).toNat)
  case atStart => exact ⟨0, by omega, rfl, fun j s hj => by omega, Below.refl _ _⟩
  case round =>
    obtain ⟨k, hk, rfl, hw, hb⟩ := hrel
    have hwH := Lib.hid hw
    clear hw
    by_cases hlt : k < l.length
    · obtain ⟨ad, s, rfl, hadb, hs, c0, c1', c2', c3⟩ := (hS.below hb).at_ hlt
      have hcl := hp s wr hb
      have hsH := Lib.hid hs
      clear hS hs
      obtain ⟨b, hbe⟩ : ∃ b, b = p s := ⟨_, rfl⟩
      rw [← hbe] at hcl
      have hbH := Lib.hid hbe
      clear hbe
      go_wp2_with fail
      refine hcl.mono ?_
      rintro e w1 ⟨rfl, hb1⟩
      clear hcl c0 c1' c2' c3
      cases b with
      | true =>
        go_wp2
        go_ret
        exact ⟨ret_int (idx_some hsH.out hbH.out.symm hwH.out).symm, b_call hb hb1⟩
      | false =>
        go_wp2
        go_roundw
        case rel =>
          refine ⟨k + 1, by omega, by go_num, fun j s' hj hs' => ?_, b_call hb hb1⟩
          rcases Nat.lt_or_ge j k with h1 | h1
          · exact hwH.out j s' h1 hs'
          · obtain rfl : j = k := by omega
            have e := hsH.out
            rw [e] at hs'
            cases hs'
            exact hbH.out.symm
        case measure => simp [intOf]; omega
    · obtain rfl : k = l.length := by omega
      go_wp2
      go_ret
      exact ⟨ret_int (idx_none hwH.out).symm, hb⟩
set_option maxHeartbeats 1000000 in
theorem IndexFunc_find (p : Sn → Bool) (c1 c2 : Value) (A : Option Addr) (cap : Nat) (l : List Sn) (w : World) (hS : Stones w A l) (hp : Pred 62 c1 c2 p w) :
    Calls Tryz.prog 61 #[.slice A l.length cap, .func (.func 62) #[] #[c1, c2]] w fun e w' => e = .returned (.int .i64 (idx (l.findIdx? p))) ∧ Below w.heap.size w w' := by
  have hlen := hS.1
  go_enter Tryz.func61, Tryz.ntmps61
  go_wp2
  go_loopw [8] (fun i wr => ∃ k : Nat, k ≤ l.length ∧ i = .int .i64 k ∧ (∀ j s, j < k → l[j]? = some s → p s = false) ∧ Below w.heap.size w wr)
    (fun i _ => l.length - (intOf i).toNat)
  case atStart => exact ⟨0, by omega, rfl, fun j s hj => by omega, Below.refl _ _⟩
  case round =>
    obtain ⟨k, hk, rfl, hw, hb⟩ := hrel
    have hwH := Lib.hid hw
    clear hw
    by_cases hlt : k < l.length
    · obtain ⟨ad, s, rfl, hadb, hs, c0, c1', c2', c3⟩ := (hS.below hb).at_ hlt
      have hcl := hp s wr hb
      have hsH := Lib.hid hs
      clear hS hs
      obtain ⟨b, hbe⟩ : ∃ b, b = p s := ⟨_, rfl⟩
      rw [← hbe] at hcl
      have hbH := Lib.hid hbe
      clear hbe
      go_wp2_with fail
      refine hcl.mono ?_
      rintro e w1 ⟨rfl, hb1⟩
      clear hcl c0 c1' c2' c3
      cases b with
      | true =>
        go_wp2
        go_ret
        exact ⟨ret_int (idx_some hsH.out hbH.out.symm hwH.out).symm, b_call hb hb1⟩
      | false =>
        go_wp2
        go_roundw
        case rel =>
          refine ⟨k + 1, by omega, by go_num, fun j s' hj hs' => ?_, b_call hb hb1⟩
          rcases Nat.lt_or_ge j k with h1 | h1
          · exact hwH.out j s' h1 hs'
          · obtain rfl : j = k := by omega
            have e := hsH.out
            rw [e] at hs'
            cases hs'
            exact hbH.out.symm
        case measure => simp [intOf]; omega
    · obtain rfl : k = l.length := by omega
      go_wp2
      go_ret
      exact ⟨ret_int (idx_none hwH.out).symm, hb⟩
end Go.Proofs.YtbeapddadogfaaaGreatDoor
