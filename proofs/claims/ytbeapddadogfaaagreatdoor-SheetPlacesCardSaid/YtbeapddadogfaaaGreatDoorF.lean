/-
  The first stones that overlap, and where a stone is: the program's.
-/
import Derived.Test.YtbeapddadogfaaaGreatDoorE
set_option linter.unusedVariables false
set_option linter.unusedSimpArgs false
namespace Go.Proofs.YtbeapddadogfaaaGreatDoor
open Go.RowKit
open Sheet

theorem clash_no1 {a b : Sn} (h : vplace a.x a.y = false) : clash a b = false := by simp [clash, Sn.valid, h]
theorem clash_no2 {a b : Sn} (h : vplace b.x b.y = false) : clash a b = false := by simp [clash, Sn.valid, h]
theorem clash_yes {a b : Sn} (h : vplace a.x a.y = true) (h' : vplace b.x b.y = true) : clash a b = (contact (a.x - b.x) (a.y - b.y) == -1) := by simp [clash, Sn.valid, h, h']
set_option maxHeartbeats 1000000 in
theorem Overlap1_any (a b : Sn) (w : World) : Calls Tryz.prog 60 #[sval a, sval b] w fun e w' => e = .returned (.bool (clash a b)) ∧ Below w.heap.size w w' := by
  obtain ⟨at_, an, ax, ay⟩ := a
  obtain ⟨bt, bn, bx, by_⟩ := b
  have hC : ∀ (x y : Int) (W : World), Calls Tryz.prog 22 #[pval x y] W fun e w' => e = .returned (.bool (vplace x y)) ∧ Below W.heap.size W w' := fun x y W => CheckSpot_any x y W
  cases h1 : vplace ax ay with
  | true =>
    cases h2 : vplace bx by_ with
    | true =>
      have hr := Lib.hid (clash_yes (a := ⟨at_, an, ax, ay⟩) (b := ⟨bt, bn, bx, by_⟩) h1 h2)
      have hz := fun w => contact_any ax ay bx by_ w h1 h2
      go_enter Tryz.func60, Tryz.ntmps60
      go_wp2_with (first | (go_at_call 22; refine (hC _ _ _).mono ?_; rintro e w1 ⟨rfl, hb1⟩; obtain ⟨hc, hf⟩ := bcell hb1; have z0 : w.heap.size < w1.heap.size := (by have := hb1.size; (try simp at this); omega); have z1 : w.heap.size + 1 < w1.heap.size := (by have := hb1.size; (try simp at this); omega)) | (go_at_call 40; refine (hz _).mono ?_; rintro e w2 ⟨rfl, hb2⟩))
      go_ret
      exact ⟨ret_bool hr.out.symm, by (repeat (first | (with_reducible exact Below.refl _ _) | (with_reducible assumption) | (with_reducible refine b_alloc ?_) | (with_reducible refine b_drew ?_) | (with_reducible refine b_drewN ?_) | (with_reducible refine b_set ?_ (by first | (simp; done) | (dsimp only; omega))) | (with_reducible refine b_call ?_ (by assumption))))⟩
    | false =>
      have hr := Lib.hid (clash_no2 (a := ⟨at_, an, ax, ay⟩) (b := ⟨bt, bn, bx, by_⟩) h2)
      go_enter Tryz.func60, Tryz.ntmps60
      go_wp2_with (first | (go_at_call 22; refine (hC _ _ _).mono ?_; rintro e w1 ⟨rfl, hb1⟩; obtain ⟨hc, hf⟩ := bcell hb1; have z0 : w.heap.size < w1.heap.size := (by have := hb1.size; (try simp at this); omega); have z1 : w.heap.size + 1 < w1.heap.size := (by have := hb1.size; (try simp at this); omega)))
      go_ret
      exact ⟨ret_bool hr.out.symm, by (repeat (first | (with_reducible exact Below.refl _ _) | (with_reducible assumption) | (with_reducible refine b_alloc ?_) | (with_reducible refine b_drew ?_) | (with_reducible refine b_drewN ?_) | (with_reducible refine b_set ?_ (by first | (simp; done) | (dsimp only; omega))) | (with_reducible refine b_call ?_ (by assumption))))⟩
  | false =>
    have hr := Lib.hid (clash_no1 (a := ⟨at_, an, ax, ay⟩) (b := ⟨bt, bn, bx, by_⟩) h1)
    go_enter Tryz.func60, Tryz.ntmps60
    go_wp2_with (first | (go_at_call 22; refine (hC _ _ _).mono ?_; rintro e w1 ⟨rfl, hb1⟩; obtain ⟨hc, hf⟩ := bcell hb1; have z0 : w.heap.size < w1.heap.size := (by have := hb1.size; (try simp at this); omega); have z1 : w.heap.size + 1 < w1.heap.size := (by have := hb1.size; (try simp at this); omega)))
    go_ret
    exact ⟨ret_bool hr.out.symm, by (repeat (first | (with_reducible exact Below.refl _ _) | (with_reducible assumption) | (with_reducible refine b_alloc ?_) | (with_reducible refine b_drew ?_) | (with_reducible refine b_drewN ?_) | (with_reducible refine b_set ?_ (by first | (simp; done) | (dsimp only; omega))) | (with_reducible refine b_call ?_ (by assumption))))⟩
/-- Overlap's closure as a value. -/
abbrev ovl : Value := .func (.func 60) #[] #[]
theorem pair1_pred (a : Sn) (B X : Nat) (w : World) (hB : w.cell? ⟨B, 0, none⟩ = some ovl) (hX : SnAt w ⟨X, 0, none⟩ a) :
    Pred 81 (.pointer (some ⟨B, 0, none⟩)) (.pointer (some ⟨X, 0, none⟩)) (clash a) w := by
  intro s W hW
  have hBl := World.block_lt_of_cell? w _ hB
  have hXl := World.block_lt_of_cell? w _ hX.1
  have hB' := (hW.cell (p := ⟨B, 0, none⟩) hBl).trans hB
  obtain ⟨c0, c1, c2, c3⟩ := hX.below hW hXl
  have hBl' := World.block_lt_of_cell? W _ hB'
  have hXl' := World.block_lt_of_cell? W _ c0
  simp only at c0 c1 c2 c3 hBl' hXl'
  have hcl : ∀ W, Calls Tryz.prog 60 #[sval a, sval s] W fun e w' => e = .returned (.bool (clash a s)) ∧ Below W.heap.size W w' := fun W => Overlap1_any a s W
  clear hB hX hBl hXl hW
  go_enter Tryz.func81, Tryz.ntmps81
  go_wp2_with fail
  refine (hcl _).mono ?_
  rintro e w1 ⟨rfl, hb1⟩
  clear hcl
  go_wp2
  go_ret
  exact ⟨rfl, by (repeat (first | (with_reducible exact Below.refl _ _) | (with_reducible assumption) | (with_reducible refine b_alloc ?_) | (with_reducible refine b_drew ?_) | (with_reducible refine b_drewN ?_) | (with_reducible refine b_set ?_ (by first | (simp; done) | (dsimp only; omega))) | (with_reducible refine b_call ?_ (by assumption))))⟩
theorem find1_pred (t n : Int) (T N : Nat) (w : World) (hT : w.cell? ⟨T, 0, none⟩ = some (.int .i64 t)) (hN : w.cell? ⟨N, 0, none⟩ = some (.int .i64 n)) :
    Pred 62 (.pointer (some ⟨T, 0, none⟩)) (.pointer (some ⟨N, 0, none⟩)) (fun s => s.team == t && s.n == n) w := by
  intro s W hW
  have hTl := World.block_lt_of_cell? w _ hT
  have hNl := World.block_lt_of_cell? w _ hN
  have hT' := (hW.cell (p := ⟨T, 0, none⟩) hTl).trans hT
  have hN' := (hW.cell (p := ⟨N, 0, none⟩) hNl).trans hN
  have hTl' := World.block_lt_of_cell? W _ hT'
  have hNl' := World.block_lt_of_cell? W _ hN'
  simp only at hTl' hNl'
  clear hT hN hTl hNl hW
  obtain ⟨st, sn, sx, sy⟩ := s
  by_cases h1 : st = t
  · by_cases h2 : sn = n
    all_goals
      go_enter Tryz.func62, Tryz.ntmps62
      go_wp2
      all_goals (go_ret; exact ⟨by simp [h1, h2], by (repeat (first | (with_reducible exact Below.refl _ _) | (with_reducible assumption) | (with_reducible refine b_alloc ?_) | (with_reducible refine b_drew ?_) | (with_reducible refine b_drewN ?_) | (with_reducible refine b_set ?_ (by first | (simp; done) | (dsimp only; omega))) | (with_reducible refine b_call ?_ (by assumption))))⟩)
  · go_enter Tryz.func62, Tryz.ntmps62
    go_wp2
    all_goals (go_ret; exact ⟨by simp [h1], by (repeat (first | (with_reducible exact Below.refl _ _) | (with_reducible assumption) | (with_reducible refine b_alloc ?_) | (with_reducible refine b_drew ?_) | (with_reducible refine b_drewN ?_) | (with_reducible refine b_set ?_ (by first | (simp; done) | (dsimp only; omega))) | (with_reducible refine b_call ?_ (by assumption))))⟩)
theorem overlapFrom_none (l : List Sn) : ∀ (r pre : List Sn), l = pre ++ r → (∀ i a, i < l.length → pre.length ≤ i → l[i]? = some a → (l.drop (i + 1)).findIdx? (clash a) = none) → overlapFrom pre.length r = none
  | [], _, _, _ => rfl
  | a :: r, pre, e, h => by
    have h0 := h pre.length a (by rw [e]; simp) (Nat.le_refl _) (by rw [e]; simp)
    have hd : l.drop (pre.length + 1) = r := by rw [e]; simp [List.drop_append]
    rw [hd] at h0
    unfold overlapFrom
    rw [h0]
    have := overlapFrom_none l r (pre ++ [a]) (by rw [e]; simp) (fun i b hi hp => h i b hi (by simp at hp; omega))
    simpa using this
theorem overlapFrom_some (l : List Sn) (i : Nat) (a : Sn) (k : Nat) (hi : l[i]? = some a) (hk : (l.drop (i + 1)).findIdx? (clash a) = some k) : ∀ (r pre : List Sn), l = pre ++ r → pre.length ≤ i →
    (∀ j b, j < i → pre.length ≤ j → l[j]? = some b → (l.drop (j + 1)).findIdx? (clash b) = none) → overlapFrom pre.length r = some (i, i + 1 + k)
  | [], pre, e, hp, _ => by
    have := (List.getElem?_eq_some_iff.1 hi).1
    rw [e] at this
    simp at this
    omega
  | b :: r, pre, e, hp, h => by
    have hd : l.drop (pre.length + 1) = r := by rw [e]; simp [List.drop_append]
    have hb : l[pre.length]? = some b := by rw [e]; simp
    unfold overlapFrom
    by_cases he : pre.length = i
    · subst he
      rw [hb] at hi
      cases hi
      rw [hd] at hk
      rw [hk]
    · have h0 := h pre.length b (by omega) (Nat.le_refl _) hb
      rw [hd] at h0
      rw [h0]
      have := overlapFrom_some l i a k hi hk r (pre ++ [b]) (by rw [e]; simp) (by simp; omega) (fun j c hj hjp => h j c hj (by simp at hjp; omega))
      simpa using this
theorem two_none {l : List Sn} (h : ∀ i a, i < l.length → l[i]? = some a → idx ((l.drop (i + 1)).findIdx? (clash a)) = -1) : two (overlapFrom 0 l) = (-1, -1) := by
  have := overlapFrom_none l l [] rfl (fun i a hi _ ha => by
    have := h i a hi ha
    cases hx : (l.drop (i + 1)).findIdx? (clash a) with
    | none => rfl
    | some k => rw [hx] at this; simp [idx] at this)
  simp only [List.length_nil] at this
  rw [this]
  rfl
theorem two_some {l : List Sn} {i : Nat} {a : Sn} {k : Int} (hi : l[i]? = some a) (hk : idx ((l.drop (i + 1)).findIdx? (clash a)) = k) (h0 : 0 ≤ k) (h : ∀ j b, j < i → l[j]? = some b → idx ((l.drop (j + 1)).findIdx? (clash b)) = -1) :
    two (overlapFrom 0 l) = ((i : Int), (i : Int) + 1 + k) := by
  cases hx : (l.drop (i + 1)).findIdx? (clash a) with
  | none => rw [hx] at hk; simp [idx] at hk; omega
  | some m =>
    rw [hx] at hk
    have := overlapFrom_some l i a m hi hx l [] rfl (by simp) (fun j b hj _ hb => by
      have := h j b hj hb
      cases hy : (l.drop (j + 1)).findIdx? (clash b) with
      | none => rfl
      | some q => rw [hy] at this; simp [idx] at this)
    simp only [List.length_nil] at this
    rw [this, ← hk]
    simp [two, idx]
theorem idx_bd (p : Sn → Bool) (l : List Sn) : -1 ≤ idx (l.findIdx? p) ∧ idx (l.findIdx? p) ≤ l.length := by
  cases h : l.findIdx? p with
  | none => simp [idx] <;> omega
  | some k =>
    obtain ⟨hk, _⟩ := List.findIdx?_eq_some_iff_getElem.1 h
    simp [idx]
    omega
set_option maxHeartbeats 1000000 in
theorem pair_any (A : Option Addr) (cap : Nat) (l : List Sn) (w : World) (hS : Stones w A l) (hcap : l.length ≤ cap) (hc63 : cap ≤ 9223372036854775807) :
    Calls Tryz.prog 59 #[.slice A l.length cap, ovl] w fun e w' => e = .returned (.tuple #[.int .i64 (two (overlapFrom 0 l)).1, .int .i64 (two (overlapFrom 0 l)).2]) ∧ Below w.heap.size w w' := by
  have hlen := hS.1
  go_enter Tryz.func59, Tryz.ntmps59
  go_wp2
  go_loopw [11] (fun i wr => ∃ k : Nat, k ≤ l.length ∧ i = .int .i64 k ∧ (∀ j b, j < k → l[j]? = some b → idx ((l.drop (j + 1)).findIdx? (clash b)) = -1) ∧ wr.cell? ⟨w.heap.size, 0, none⟩ = some ovl ∧ Below w.heap.size w wr)
    (fun i _ => l.length - (intOf i).toNat)
  case atStart => exact ⟨0, by omega, rfl, fun j s hj => by omega, by simp [go_sem], by (repeat (first | (with_reducible exact Below.refl _ _) | (with_reducible assumption) | (with_reducible refine b_alloc ?_) | (with_reducible refine b_drew ?_) | (with_reducible refine b_drewN ?_) | (with_reducible refine b_set ?_ (by first | (simp; done) | (dsimp only; omega))) | (with_reducible refine b_call ?_ (by assumption))))⟩
  case round =>
    obtain ⟨k, hk, rfl, hw, hbox, hb⟩ := hrel
    have hwH := Lib.hid hw
    clear hw
    by_cases hlt : k < l.length
    · obtain ⟨ad, s, rfl, hadb, hs, c0, c1, c2, c3⟩ := (hS.below hb).at_ hlt
      have hsH := Lib.hid hs
      clear hs
      have hboxl := World.block_lt_of_cell? wr _ hbox
      simp only at hboxl
      have hcl : ∀ (A' : Option Addr) (n c : Nat) (W : World), n = l.length - (k + 1) → Below wr.heap.size wr W → SnAt W ⟨wr.heap.size, 0, none⟩ s → (k + 1 < l.length → A' = some (ad.add ((k + 1) * 4))) →
          Calls Tryz.prog 61 #[.slice A' n c, .func (.func 81) #[] #[.pointer (some ⟨w.heap.size, 0, none⟩), .pointer (some ⟨wr.heap.size, 0, none⟩)]] W
            fun e w' => e = .returned (.int .i64 (idx ((l.drop (k + 1)).findIdx? (clash s)))) ∧ Below W.heap.size W w' := fun A' n c W hn hW hX hA => by
        have hd := ((hS.below hb).below hW).drop (A' := A') (k + 1) (fun hlt ad' e => by cases e; exact hA hlt)
        have := IndexFunc_pair (clash s) _ _ A' c (l.drop (k + 1)) W hd (pair1_pred s w.heap.size wr.heap.size W ((hW.cell (p := ⟨w.heap.size, 0, none⟩) hboxl).trans hbox) hX)
        rwa [List.length_drop, ← hn] at this
      obtain ⟨r0, r1⟩ := idx_bd (clash s) (l.drop (k + 1))
      rw [List.length_drop] at r1
      obtain ⟨r, hre⟩ : ∃ r, r = idx ((l.drop (k + 1)).findIdx? (clash s)) := ⟨_, rfl⟩
      rw [← hre] at hcl r0 r1
      have hreH := Lib.hid hre
      clear hre
      have hclH := Lib.hid hcl
      clear hcl hS
      rcases (by omega : cap = k + 1 ∨ ¬ cap = k + 1) with rfl | hck
      all_goals
        go_wp2_with fail
        refine (hclH.out _ _ _ _ (by omega) ((Below.refl _ _).alloc (Nat.le_refl _) _) ⟨by simp [go_sem], by simp [go_sem], by simp [go_sem], by simp [go_sem]⟩ (fun hlt => by first | rfl | omega)).mono ?_
        rintro e w1 ⟨rfl, hb1⟩
        clear hclH c0 c1 c2 c3
        have hbox1 : w1.cell? ⟨w.heap.size, 0, none⟩ = some ovl := (hb1.cell (p := ⟨w.heap.size, 0, none⟩) (by simp; omega)).trans ((Below.cell ((Below.refl _ wr).alloc (Nat.le_refl _) _) (p := ⟨w.heap.size, 0, none⟩) hboxl).trans hbox)
        rcases (by omega : r < 0 ∨ 0 ≤ r) with hr0 | hr0
        · have hd : decide (0 ≤ r) = false := decide_eq_false (by omega)
          go_wp2
          go_roundw
          case rel =>
            refine ⟨k + 1, by omega, by go_num, fun j b hj hjb => ?_, hbox1, b_call (b_alloc hb) hb1⟩
            rcases Nat.lt_or_ge j k with h1 | h1
            · exact hwH.out j b h1 hjb
            · obtain rfl : j = k := by omega
              have e := hsH.out
              rw [e] at hjb
              cases hjb
              rw [← hreH.out]
              omega
          case measure => simp [intOf]; omega
        · go_wp2
          go_ret2
          exact ⟨by rw [two_some hsH.out hreH.out.symm hr0 hwH.out]; rfl, b_call (b_alloc hb) hb1⟩
    · obtain rfl : k = l.length := by omega
      go_wp2
      go_ret2
      exact ⟨by rw [two_none (fun i a hi ha => hwH.out i a hi ha)]; rfl, hb⟩
theorem Overlap_any (A : Option Addr) (cap : Nat) (l : List Sn) (w : World) (hS : Stones w A l) (hcap : l.length ≤ cap) (hc63 : cap ≤ 9223372036854775807) :
    Calls Tryz.prog 24 #[.slice A l.length cap] w fun e w' => e = .returned (.tuple #[.int .i64 (two (overlapFrom 0 l)).1, .int .i64 (two (overlapFrom 0 l)).2]) ∧ Below w.heap.size w w' := by
  have hcl := pair_any A cap l w hS hcap hc63
  clear hS
  go_enter Tryz.func24, Tryz.ntmps24
  go_wp2_with fail
  refine hcl.mono ?_
  rintro e w1 ⟨rfl, hb1⟩
  clear hcl
  go_wp2
  go_ret2
  exact ⟨rfl, hb1⟩
def findR (l : List Sn) (t n : Int) : Int := match find l t n with | some k => k | none => 0
def findE (l : List Sn) (t n : Int) : Int := match find l t n with | some _ => 0 | none => 7
theorem find_idx (l : List Sn) (t n : Int) : (idx (find l t n) < 0 ∧ findR l t n = 0 ∧ findE l t n = 7) ∨ (0 ≤ idx (find l t n) ∧ findR l t n = idx (find l t n) ∧ findE l t n = 0) := by
  unfold findR findE
  cases find l t n with
  | none => exact .inl ⟨by simp [idx], rfl, rfl⟩
  | some k => exact .inr ⟨by simp [idx], rfl, rfl⟩
theorem Find_any (A : Option Addr) (cap : Nat) (l : List Sn) (t n : Int) (w : World) (hS : Stones w A l) :
    Calls Tryz.prog 26 #[.slice A l.length cap, .int .i64 t, .int .i64 n] w fun e w' => e = .returned (.tuple #[.int .i64 (findR l t n), .int .i64 (findE l t n)]) ∧ Below w.heap.size w w' := by
  have hr := find_idx l t n
  have hcl : ∀ (T N : Nat) (W : World), Below w.heap.size w W → W.cell? ⟨T, 0, none⟩ = some (.int .i64 t) → W.cell? ⟨N, 0, none⟩ = some (.int .i64 n) → Calls Tryz.prog 61 #[.slice A l.length cap, .func (.func 62) #[] #[.pointer (some ⟨T, 0, none⟩), .pointer (some ⟨N, 0, none⟩)]] W
      fun e w' => e = .returned (.int .i64 (idx (find l t n))) ∧ Below W.heap.size W w' := fun T N W hb hT hN => IndexFunc_find _ _ _ A cap l W (hS.below hb) (find1_pred t n T N W hT hN)
  obtain ⟨r, hre⟩ : ∃ r, r = idx (find l t n) := ⟨_, rfl⟩
  rw [← hre] at hcl hr
  have hclH := Lib.hid hcl
  clear hcl hS hre
  rcases hr with ⟨h0, h1, h2⟩ | ⟨h0, h1, h2⟩
  all_goals
    rw [h1, h2]
    clear h1 h2
    go_enter Tryz.func26, Tryz.ntmps26
    go_wp2_with fail
    refine (hclH.out _ _ _ (by (repeat (first | (with_reducible exact Below.refl _ _) | (with_reducible assumption) | (with_reducible refine b_alloc ?_) | (with_reducible refine b_drew ?_) | (with_reducible refine b_drewN ?_) | (with_reducible refine b_set ?_ (by first | (simp; done) | (dsimp only; omega))) | (with_reducible refine b_call ?_ (by assumption))))) (by simp [go_sem]) (by simp [go_sem])).mono ?_
    rintro e w1 ⟨rfl, hb1⟩
    clear hclH
    go_wp2
    go_ret2
    exact ⟨rfl, by (repeat (first | (with_reducible exact Below.refl _ _) | (with_reducible assumption) | (with_reducible refine b_alloc ?_) | (with_reducible refine b_drew ?_) | (with_reducible refine b_drewN ?_) | (with_reducible refine b_set ?_ (by first | (simp; done) | (dsimp only; omega))) | (with_reducible refine b_call ?_ (by assumption))))⟩
end Go.Proofs.YtbeapddadogfaaaGreatDoor
