/-
  The order of the stones in the house: what selection gives, and what counting by the best of each team gives (plain Lean).
-/
import Derived.Test.YtbeapddadogfaaaGreatDoorSpec
namespace Sheet

/-- i comes ahead of k: nearer, or as near and named earlier. -/
def ahead (key : Nat → Int) (i k : Nat) : Prop := key i < key k ∨ key i = key k ∧ i < k
theorem ahead_trans {key : Nat → Int} {a b c : Nat} (h : ahead key a b) (k : ahead key b c) : ahead key a c := by
  unfold ahead at *; omega
theorem insR_perm (key : Nat → Int) (x : Nat) : ∀ l, (insR key x l).Perm (x :: l)
  | [] => by simp [insR]
  | a :: r => by
    unfold insR
    split
    · exact ((insR_perm key x r).cons a).trans (List.Perm.swap x a r)
    · exact List.Perm.refl _
/-- The list reversed: each one behind (in the list) comes ahead. -/
theorem insR_sorted (key : Nat → Int) (x : Nat) : ∀ l : List Nat, l.Pairwise (fun a b => ahead key b a) → (∀ a ∈ l, a < x) → (insR key x l).Pairwise (fun a b => ahead key b a)
  | [], _, _ => by simp [insR]
  | a :: r, h, hx => by
    obtain ⟨h1, h2⟩ := List.pairwise_cons.1 h
    unfold insR
    split
    · rename_i hlt
      refine List.pairwise_cons.2 ⟨fun b hb => ?_, insR_sorted key x r h2 (fun b hb => hx b (by simp [hb]))⟩
      rcases List.mem_cons.1 ((insR_perm key x r).mem_iff.1 hb) with rfl | hb
      · exact .inl hlt
      · exact h1 b hb
    · rename_i hge
      have hax : ahead key a x := by
        have := hx a (by simp)
        unfold ahead
        omega
      refine List.pairwise_cons.2 ⟨fun b hb => ?_, h⟩
      rcases List.mem_cons.1 hb with rfl | hb
      · exact hax
      · exact ahead_trans (h1 b hb) hax
theorem idxFrom_ge : ∀ (l : List Sn) (i : Nat), ∀ k ∈ idxFrom i l, i ≤ k
  | [], _, _, h => by simp [idxFrom] at h
  | s :: r, i, k, h => by
    unfold idxFrom at h
    split at h
    · rcases List.mem_cons.1 h with rfl | h
      · exact Nat.le_refl _
      · have := idxFrom_ge r (i + 1) k h; omega
    · have := idxFrom_ge r (i + 1) k h; omega
theorem idxFrom_rising : ∀ (l : List Sn) (i : Nat), (idxFrom i l).Pairwise (· < ·)
  | [], _ => by simp [idxFrom]
  | s :: r, i => by
    unfold idxFrom
    split
    · exact List.pairwise_cons.2 ⟨fun k hk => by have := idxFrom_ge r (i + 1) k hk; omega, idxFrom_rising r (i + 1)⟩
    · exact idxFrom_rising r (i + 1)
theorem mem_idxFrom : ∀ (l : List Sn) (i k : Nat), k ∈ idxFrom i l ↔ i ≤ k ∧ k < i + l.length ∧ (get l (k - i)).housed = true
  | [], i, k => by simp [idxFrom]; omega
  | s :: r, i, k => by
    have ih := mem_idxFrom r (i + 1) k
    have hg : i < k → get (s :: r) (k - i) = get r (k - (i + 1)) := fun h => by
      unfold get
      rw [show k - i = (k - (i + 1)) + 1 by omega]
      simp
    have h0 : get (s :: r) (i - i) = s := by simp [get]
    unfold idxFrom
    split
    · rename_i hs
      rw [List.mem_cons, ih]
      constructor
      · rintro (rfl | ⟨h1, h2, h3⟩)
        · exact ⟨Nat.le_refl _, by simp, by rw [h0]; exact hs⟩
        · exact ⟨by omega, by simp; omega, by rw [hg (by omega)]; exact h3⟩
      · rintro ⟨h1, h2, h3⟩
        by_cases e : k = i
        · exact .inl e
        · right
          rw [hg (by omega)] at h3
          exact ⟨by omega, by simp at h2; omega, h3⟩
    · rename_i hs
      rw [ih]
      constructor
      · rintro ⟨h1, h2, h3⟩
        exact ⟨by omega, by simp; omega, by rw [hg (by omega)]; exact h3⟩
      · rintro ⟨h1, h2, h3⟩
        by_cases e : k = i
        · subst e
          rw [h0] at h3
          exact absurd h3 hs
        · rw [hg (by omega)] at h3
          exact ⟨by omega, by simp at h2; omega, h3⟩
theorem fold_sorted (key : Nat → Int) : ∀ (xs acc : List Nat), xs.Pairwise (· < ·) → acc.Pairwise (fun a b => ahead key b a) → (∀ a ∈ acc, ∀ x ∈ xs, a < x) →
    (xs.foldl (fun acc x => insR key x acc) acc).Pairwise (fun a b => ahead key b a) ∧ (xs.foldl (fun acc x => insR key x acc) acc).Perm (acc ++ xs)
  | [], acc, _, h, _ => by simpa using h
  | x :: r, acc, hx, h, ha => by
    obtain ⟨h1, h2⟩ := List.pairwise_cons.1 hx
    have hm : ∀ a ∈ insR key x acc, ∀ y ∈ r, a < y := fun a hm y hy => by
      rcases List.mem_cons.1 ((insR_perm key x acc).mem_iff.1 hm) with rfl | hm
      · exact h1 y hy
      · exact ha a hm y (by simp [hy])
    obtain ⟨p, q⟩ := fold_sorted key r (insR key x acc) h2 (insR_sorted key x acc h (fun a hm => ha a hm x (by simp))) hm
    refine ⟨p, q.trans ?_⟩
    refine ((insR_perm key x acc).append_right r).trans ?_
    exact (List.perm_middle (l₁ := acc) (a := x) (l₂ := r)).symm
theorem near_sorted (l : List Sn) : (near l).Pairwise (ahead (keyAt l)) := by
  unfold near
  rw [List.pairwise_reverse]
  exact (fold_sorted (keyAt l) (idxFrom 0 l) [] (idxFrom_rising l 0) (by simp) (by simp)).1
theorem near_perm (l : List Sn) : (near l).Perm (idxFrom 0 l) := by
  unfold near
  have := (fold_sorted (keyAt l) (idxFrom 0 l) [] (idxFrom_rising l 0) (by simp) (by simp)).2
  exact (List.reverse_perm _).trans (by simpa using this)
theorem mem_near (l : List Sn) (k : Nat) : k ∈ near l ↔ k < l.length ∧ (get l k).housed = true := by
  rw [(near_perm l).mem_iff, mem_idxFrom]
  simp
theorem near_nodup (l : List Sn) : (near l).Pairwise (· ≠ ·) :=
  (near_sorted l).imp (fun {a b} h e => by subst e; unfold ahead at h; omega)

/-- The best one that is left, as the reference seeks it, up to i. -/
def bestTo (l : List Sn) (out : List Nat) : Nat → Option Nat
  | 0 => none
  | i + 1 => if (get l i).housed = true ∧ ¬ i ∈ out ∧ (∀ b, bestTo l out i = some b → keyAt l i < keyAt l b) then some i else bestTo l out i
theorem bestTo_spec (l : List Sn) (out : List Nat) : ∀ i, (∀ b, bestTo l out i = some b → b < i ∧ (get l b).housed = true ∧ ¬ b ∈ out ∧ ∀ k, k < i → (get l k).housed = true → ¬ k ∈ out → k = b ∨ ahead (keyAt l) b k) ∧
    (bestTo l out i = none → ∀ k, k < i → (get l k).housed = true → k ∈ out)
  | 0 => ⟨fun b h => by simp [bestTo] at h, fun _ k hk => by omega⟩
  | i + 1 => by
    obtain ⟨h1, h2⟩ := bestTo_spec l out i
    unfold bestTo
    split
    · rename_i hc
      obtain ⟨c1, c2, c3⟩ := hc
      refine ⟨fun b hb => ?_, fun h => by cases h⟩
      obtain rfl := Option.some.inj hb
      refine ⟨Nat.lt_succ_self _, c1, c2, fun k hk hh hn => ?_⟩
      by_cases e : k = i
      · exact .inl e
      · right
        cases hbt : bestTo l out i with
        | none => exact absurd (h2 hbt k (by omega) hh) hn
        | some b =>
          have hlt := c3 b hbt
          rcases (h1 b hbt).2.2.2 k (by omega) hh hn with rfl | ha
          · exact .inl hlt
          · unfold ahead at ha ⊢; omega
    · rename_i hc
      refine ⟨fun b hb => ?_, fun hbt k hk hh => ?_⟩
      · obtain ⟨b1, b2, b3, b4⟩ := h1 b hb
        refine ⟨by omega, b2, b3, fun k hk hh hn => ?_⟩
        by_cases e : k = i
        · subst e
          right
          have : ¬ keyAt l k < keyAt l b := fun hlt => hc ⟨hh, hn, fun b' hb' => by rw [hb] at hb'; cases hb'; exact hlt⟩
          unfold ahead
          omega
        · exact b4 k (by omega) hh hn
      · by_cases e : k = i
        · subst e
          exact Classical.byContradiction fun hn => hc ⟨hh, hn, fun b' hb' => by rw [hbt] at hb'; cases hb'⟩
        · exact h2 hbt k (by omega) hh
/-- Behind k rounds of the reference the first k of the order have come. -/
theorem best_next (l : List Sn) (k : Nat) (hk : k < (near l).length) : bestTo l ((near l).take k) l.length = some (near l)[k] := by
  obtain ⟨h1, h2⟩ := bestTo_spec l ((near l).take k) l.length
  have hm := (mem_near l (near l)[k]).1 (List.getElem_mem hk)
  have hnd := near_nodup l
  have hnot : ¬ (near l)[k] ∈ (near l).take k := fun hin => by
    obtain ⟨j, hj, e⟩ := List.mem_iff_getElem.1 hin
    rw [List.getElem_take] at e
    simp at hj
    exact (List.pairwise_iff_getElem.1 hnd j k (by omega) hk (by omega)) e
  cases hb : bestTo l ((near l).take k) l.length with
  | none => exact absurd (h2 hb _ hm.1 hm.2) hnot
  | some b =>
    obtain ⟨b1, b2, b3, b4⟩ := h1 b hb
    rcases b4 _ hm.1 hm.2 hnot with e | ha
    · rw [e]
    · obtain ⟨j, hj, e⟩ := List.mem_iff_getElem.1 ((mem_near l b).2 ⟨b1, b2⟩)
      subst e
      have hjk : k ≤ j := Classical.byContradiction fun hlt => b3 (List.mem_iff_getElem.2 ⟨j, by simp; omega, by rw [List.getElem_take]⟩)
      rcases Nat.lt_or_ge k j with hlt | hge
      · have := List.pairwise_iff_getElem.1 (near_sorted l) k j hk hj hlt
        unfold ahead at this ha
        omega
      · obtain rfl : k = j := by omega
        rfl
theorem best_last (l : List Sn) : bestTo l (near l) l.length = none := by
  obtain ⟨h1, _⟩ := bestTo_spec l (near l) l.length
  cases hb : bestTo l (near l) l.length with
  | none => rfl
  | some b =>
    obtain ⟨b1, b2, b3, _⟩ := h1 b hb
    exact absurd ((mem_near l b).2 ⟨b1, b2⟩) b3
end Sheet
