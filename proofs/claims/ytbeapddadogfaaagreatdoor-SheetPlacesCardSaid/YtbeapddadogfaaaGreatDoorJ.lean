/-
  The sort of a row of indices by insertion.
-/
import Derived.Test.YtbeapddadogfaaaGreatDoorI
import Derived.BigRegion
import Derived.IntWalk
import Derived.Deep.LoopGhost
set_option linter.unusedVariables false
set_option linter.unusedSimpArgs false
namespace Go.Proofs.YtbeapddadogfaaaGreatDoor
open Go.RowKit
open Sheet

/-- A row of indices in block g. -/
def RowL (w : World) (g : Nat) (L : List Nat) : Prop := ∀ (p x : Nat), L[p]? = some x → w.cell? ⟨g, p, none⟩ = some (.int .i64 x) ∧ w.frozen? ⟨g, p, none⟩ = false
theorem RowL.keep {w W : World} {g : Nat} {L : List Nat} (h : RowL w g L) (hb : W.heap[g]? = w.heap[g]?) : RowL W g L := fun p x hp => by
  obtain ⟨h1, h2⟩ := h p x hp
  exact ⟨(World.cell?_of_block hb).trans h1, by simp only [World.frozen?, hb]; exact h2⟩
theorem RowL.swap {w : World} {g : Nat} {P S : List Nat} {y x : Nat} (h : RowL w g (P ++ y :: x :: S)) :
    RowL ((w.setCell ⟨g, P.length + 1, none⟩ (.int .i64 y)).setCell ⟨g, P.length, none⟩ (.int .i64 x)) g (P ++ x :: y :: S) := fun p z hp => by
  have hx := h (P.length + 1) x (by simp)
  have hy := h P.length y (by simp)
  have hf : ∀ (a : Addr) (v : Value) (W : World) (q : Addr), (W.setCell a v).frozen? q = W.frozen? q := fun a v W q => by first | exact World.frozen?_setCell W a q v | simp
  rw [hf, hf]
  by_cases e1 : p = P.length
  · subst e1
    have : z = x := by simpa using hp.symm
    subst this
    exact ⟨World.cell?_setCell_same _ _ _ ((World.cell?_setCell_other _ _ _ _ (by simp)).trans hy.1), hy.2⟩
  · by_cases e2 : p = P.length + 1
    · subst e2
      have : z = y := by simpa using hp.symm
      subst this
      exact ⟨(World.cell?_setCell_other _ _ _ _ (by simp)).trans (World.cell?_setCell_same _ _ _ hx.1), hx.2⟩
    · have h0 : (P ++ y :: x :: S)[p]? = some z := by
        rcases Nat.lt_or_ge p P.length with hl | hl
        · rw [List.getElem?_append_left hl] at hp ⊢; exact hp
        · rw [List.getElem?_append_right hl] at hp ⊢
          obtain ⟨q, hq⟩ : ∃ q, p - P.length = q + 2 := ⟨p - P.length - 2, by omega⟩
          rw [hq] at hp ⊢
          simpa using hp
      obtain ⟨h1, h2⟩ := h p z h0
      exact ⟨(World.cell?_setCell_other _ _ _ _ (by simp <;> omega)).trans ((World.cell?_setCell_other _ _ _ _ (by simp <;> omega)).trans h1), h2⟩
/-- What has been put in order, the last ahead. -/
def ins (key : Nat → Int) (xs : List Nat) (k : Nat) : List Nat := (xs.take k).foldl (fun acc x => insR key x acc) []
theorem ins_succ (key : Nat → Int) {xs : List Nat} {k x : Nat} (h : xs[k]? = some x) : ins key xs (k + 1) = insR key x (ins key xs k) := by
  unfold ins
  rw [List.take_add_one, h, List.foldl_append]
  rfl
theorem ins_length (key : Nat → Int) (xs : List Nat) : ∀ k, k ≤ xs.length → (ins key xs k).length = k
  | 0, _ => by simp [ins]
  | k + 1, h => by
    obtain ⟨x, hx⟩ : ∃ x, xs[k]? = some x := ⟨_, List.getElem?_eq_getElem (by omega)⟩
    rw [ins_succ key hx, (insR_perm key x _).length_eq, List.length_cons, ins_length key xs k (by omega)]
theorem ins_mem (key : Nat → Int) (xs : List Nat) : ∀ k, ∀ a ∈ ins key xs k, a ∈ xs
  | 0, a, h => by simp [ins] at h
  | k + 1, a, h => by
    cases hx : xs[k]? with
    | none =>
      have : ins key xs (k + 1) = ins key xs k := by unfold ins; rw [List.take_add_one, hx]; simp
      rw [this] at h
      exact ins_mem key xs k a h
    | some x =>
      rw [ins_succ key hx] at h
      rcases List.mem_cons.1 ((insR_perm key x _).mem_iff.1 h) with rfl | h
      · exact List.mem_of_getElem? hx
      · exact ins_mem key xs k a h
theorem insR_at (key : Nat → Int) (x : Nat) : ∀ (rp : List Nat) (m : Nat), m ≤ rp.length → (∀ a ∈ rp.take m, key x < key a) → (∀ a, rp[m]? = some a → ¬ key x < key a) → insR key x rp = rp.take m ++ x :: rp.drop m
  | [], m, hm, _, _ => by simp at hm; subst hm; rfl
  | a :: r, 0, _, _, h => by
    have := h a (by simp)
    simp [insR, this]
  | a :: r, m + 1, hm, h1, h2 => by
    have ha : key x < key a := h1 a (by simp)
    have ih := insR_at key x r m (by simpa using hm) (fun b hb => h1 b (by simp [hb])) (fun b hb => h2 b (by simpa using hb))
    simp [insR, ha, ih]
/-- The row while x sinks: m have been passed. -/
def row (rp : List Nat) (m x : Nat) (R : List Nat) : List Nat := (rp.drop m).reverse ++ x :: ((rp.take m).reverse ++ R)
theorem row_zero (rp : List Nat) (x : Nat) (R : List Nat) : row rp 0 x R = rp.reverse ++ x :: R := by simp [row]
theorem row_at {rp : List Nat} {m y : Nat} (x : Nat) (R : List Nat) (h : rp[m]? = some y) : row rp m x R = (rp.drop (m + 1)).reverse ++ y :: x :: ((rp.take m).reverse ++ R) ∧ row rp (m + 1) x R = (rp.drop (m + 1)).reverse ++ x :: y :: ((rp.take m).reverse ++ R) := by
  have hlt := (List.getElem?_eq_some_iff.1 h).1
  have hd : rp.drop m = y :: rp.drop (m + 1) := by rw [List.drop_eq_getElem_cons hlt, (List.getElem?_eq_some_iff.1 h).2]
  have ht : rp.take (m + 1) = rp.take m ++ [y] := by rw [List.take_add_one, h]; rfl
  unfold row
  rw [hd, ht]
  simp
theorem row_done {key : Nat → Int} {rp : List Nat} {m x : Nat} (R : List Nat) (hm : m ≤ rp.length) (h1 : ∀ a ∈ rp.take m, key x < key a) (h2 : ∀ a, rp[m]? = some a → ¬ key x < key a) : row rp m x R = (insR key x rp).reverse ++ R := by
  rw [insR_at key x rp m hm h1 h2]
  unfold row
  simp
set_option maxHeartbeats 2000000 in
set_option maxRecDepth 100000 in
theorem insertion_any (key : Nat → Int) (N T g cap : Nat) (xs : List Nat) (w : World) (hx : ∀ x ∈ xs, x < N) (hlen : xs.length ≤ 1000) (hR : RowL w g xs) (hg : g < w.heap.size)
    (hcmp : ∀ (i k : Nat) (W : World), i < N → k < N → w.grownBy W (some g) → Calls Tryz.prog 84 #[.int .i64 i, .int .i64 k, .pointer (some ⟨T, 0, none⟩)] W fun e w' => e = .returned (.int .i64 (cmp3 (key i) (key k))) ∧ Below W.heap.size W w') :
    Calls Tryz.prog 113 #[.slice (some ⟨g, 0, none⟩) xs.length cap, .int .i64 0, .int .i64 xs.length, .func (.func 84) #[] #[.pointer (some ⟨T, 0, none⟩)]] w
      fun e w' => e = .returned (.tuple #[]) ∧ RowL w' g (ins key xs xs.length).reverse ∧ w.grownBy w' (some g) := by
  have hcmpH := Lib.hid hcmp
  clear hcmp
  go_enter Tryz.func113, Tryz.ntmps113
  go_wp2
  go_loopg [8] xs.length (fun g1 vi wr => ∃ k : Nat, vi = .int .i64 ((k : Int) + 1) ∧ xs.length - k ≤ g1 ∧ (k < xs.length ∨ k = 0) ∧ Hid (RowL wr g ((ins key xs (k + 1)).reverse ++ xs.drop (k + 1))) ∧ Hid (w.grownBy wr (some g)))
  case atStart =>
    refine ⟨0, rfl, by omega, by omega, ?_, o_refl⟩
    show RowL w g _
    have : (ins key xs (0 + 1)).reverse ++ xs.drop (0 + 1) = xs := by
      cases xs with
      | nil => rfl
      | cons a r => simp [ins, insR]
    rw [this]
    exact hR
  case round =>
    clear hR
    obtain ⟨k, rfl, hg1, hk, hrow, hgr⟩ := hrel
    by_cases hlt : k + 1 < xs.length
    · have hd : decide ((k : Int) + 1 < (xs.length : Int)) = true := decide_eq_true (by omega)
      obtain ⟨x, hxx⟩ : ∃ x, xs[k + 1]? = some x := ⟨_, List.getElem?_eq_getElem hlt⟩
      have hxN : x < N := hx x (List.mem_of_getElem? hxx)
      have hrl := ins_length key xs (k + 1) (by omega)
      have hrN : Hid (∀ a ∈ ins key xs (k + 1), a < N) := fun a ha => hx a (ins_mem key xs _ a ha)
      have hnext : Hid (ins key xs (k + 1 + 1) = insR key x (ins key xs (k + 1))) := ins_succ key hxx
      have hdr : xs.drop (k + 1) = x :: xs.drop (k + 1 + 1) := by rw [List.drop_eq_getElem_cons hlt, (List.getElem?_eq_some_iff.1 hxx).2]
      have hrow0 : Hid (RowL wr g (row (ins key xs (k + 1)) 0 x (xs.drop (k + 1 + 1)))) := by
        show RowL _ _ _
        rw [row_zero, ← hdr]
        exact hrow.out
      obtain ⟨rp, hrp⟩ : ∃ rp, rp = ins key xs (k + 1) := ⟨_, rfl⟩
      rw [← hrp] at hrl hrN hnext hrow0
      obtain ⟨R, hRe⟩ : ∃ R, R = xs.drop (k + 1 + 1) := ⟨_, rfl⟩
      rw [← hRe] at hrow0
      have hrlH := Lib.hid hrl
      have hReH := Lib.hid hRe
      clear hrp hdr hxx hrow hrl hRe
      go_wp2
      go_loopg [9] (k + 1) (fun g2 vj wr2 => ∃ j : Nat, vj = .int .i64 j ∧ j ≤ k + 1 ∧ j ≤ g2 ∧ Hid (∀ a ∈ rp.take (k + 1 - j), key x < key a) ∧ Hid (RowL wr2 g (row rp (k + 1 - j) x R)) ∧ Hid (w.grownBy wr2 (some g)))
      case atStart => exact ⟨k + 1, by go_num, Nat.le_refl _, Nat.le_refl _, (show Hid _ from by rw [Nat.sub_self]; intro a ha; simp at ha), by rw [Nat.sub_self]; exact hrow0, hgr⟩
      case round =>
        clear hrow0 hgr
        obtain ⟨j, rfl, hjk, hjg, hbig, hrow2, hgr2⟩ := hrel
        rcases Nat.eq_zero_or_pos j with hj0 | hj0
        · subst hj0
          have hd0 : decide (((0 : Nat) : Int) > 0) = false := rfl
          have hd1 : decide ((0 : Int) > 0) = false := rfl
          have hfin : Hid (row rp (k + 1 - 0) x R = (insR key x rp).reverse ++ R) := row_done R (by rw [hrlH.out]; omega) hbig.out (fun a ha => by
            have := (List.getElem?_eq_some_iff.1 ha).1
            rw [hrlH.out] at this
            omega)
          go_wp2_with fail
          (refine wp_region_past (by kernel_rfl) (by kernel_rfl) ?_; (repeat (first | go_big_quiet_step (fail) | quiet_step (fail))); refine wpQuiet_nil ?_; intro wq hq)
          have hgrq : Hid (w.grownBy wq (some g)) := o_call hgr2.out hq
          have hrowq : Hid (RowL wq g ((insR key x rp).reverse ++ R)) := by
            show RowL _ _ _
            rw [← hfin.out]
            exact hrow2.out.keep (hq.block g (by have := hgr2.out.size; omega))
          clear hrow2 hgr2
          go_wp2
          go_roundg (xs.length - (k + 1))
          case measure => omega
          case rel => exact ⟨k + 1, by go_num, Nat.le_refl _, by omega, (show Hid _ from by rw [hnext.out, ← hReH.out]; exact hrowq.out), hgrq⟩
        · obtain ⟨jp, rfl⟩ : ∃ jp, j = jp + 1 := ⟨j - 1, by omega⟩
          have hdj : decide ((jp : Int) + 1 > 0) = true := decide_eq_true (by omega)
          obtain ⟨y, hy⟩ : ∃ y, rp[k + 1 - (jp + 1)]? = some y := ⟨_, List.getElem?_eq_getElem (by rw [hrlH.out]; omega)⟩
          have hyN : y < N := hrN.out y (List.mem_of_getElem? hy)
          obtain ⟨hra, hrb⟩ := row_at x R hy
          have hPl : (rp.drop (k + 1 - (jp + 1) + 1)).reverse.length = jp := by rw [List.length_reverse, List.length_drop, hrlH.out]; omega
          have hrow3 := hrow2.out
          rw [hra] at hrow3
          obtain ⟨P, hP⟩ : ∃ P, P = (rp.drop (k + 1 - (jp + 1) + 1)).reverse := ⟨_, rfl⟩
          obtain ⟨S, hS⟩ : ∃ S, S = ((rp.take (k + 1 - (jp + 1))).reverse ++ R) := ⟨_, rfl⟩
          rw [← hP] at hrow3 hPl hrb
          rw [← hS] at hrow3 hrb
          have cy := (hrow3 jp y (by rw [← hPl]; simp)).1
          have cx := (hrow3 (jp + 1) x (by rw [← hPl]; simp)).1
          have hwl := hgr2.out.size
          have cyp : ∀ p : Past wr, p.W.cell? ⟨g, jp, none⟩ = some (.int .i64 y) := fun p => (past_cell p _ _ (by omega)).trans cy
          have cxp : ∀ p : Past wr, p.W.cell? ⟨g, jp + 1, none⟩ = some (.int .i64 x) := fun p => (past_cell p _ _ (by omega)).trans cx
          have e1 : IntKind.i64.wrap ((jp : Int) + 1 - 1) = jp := by rw [IntKind.wrap_i64]; omega
          have hyH := Lib.hid hy
          have hraH := Lib.hid hra
          have hrbH := Lib.hid hrb
          have hrow3H := Lib.hid hrow3
          have hPlH := Lib.hid hPl
          clear hra hrb hP hS hy cy cx hrow3 hPl
          by_cases hlt2 : key x < key y
          · have hdc : decide (cmp3 (key x) (key y) < 0) = true := decide_eq_true (by unfold cmp3; rw [if_pos hlt2]; decide)
            go_wp2_with fail
            (refine wp_region_past (by kernel_rfl) (by kernel_rfl) ?_; (repeat (first | go_big_quiet_step ((go_at_call 84; exact past_call _ (hcmpH.out _ _ _ (by assumption) (by assumption) (o_call hgr2.out (Past.h _))))) | quiet_step ((go_at_call 84; exact past_call _ (hcmpH.out _ _ _ (by assumption) (by assumption) (o_call hgr2.out (Past.h _))))))); refine wpQuiet_nil ?_; intro wq hq)
            have hgrq : Hid (w.grownBy wq (some g)) := o_call hgr2.out hq
            have hrowq : Hid (RowL wq g (P ++ y :: x :: S)) := hrow3H.out.keep (hq.block g (by omega))
            clear hrow2 hgr2 cyp cxp hrow3H
            have cyq : wq.cell? ⟨g, jp, none⟩ = some (.int .i64 y) := (hrowq.out jp y (by rw [← hPlH.out]; simp)).1
            have cxq : wq.cell? ⟨g, jp + 1, none⟩ = some (.int .i64 x) := (hrowq.out (jp + 1) x (by rw [← hPlH.out]; simp)).1
            have fyq : wq.frozen? ⟨g, jp, none⟩ = false := (hrowq.out jp y (by rw [← hPlH.out]; simp)).2
            have fxq : wq.frozen? ⟨g, jp + 1, none⟩ = false := (hrowq.out (jp + 1) x (by rw [← hPlH.out]; simp)).2
            have hswap : Hid (RowL ((wq.setCell ⟨g, jp + 1, none⟩ (.int .i64 y)).setCell ⟨g, jp, none⟩ (.int .i64 x)) g (P ++ x :: y :: S)) := by
              have := RowL.swap hrowq.out
              rw [hPlH.out] at this
              exact this
            clear hq
            go_wp2_with fail
            go_region
            all_goals
              go_wp2
              go_roundg jp
              case measure => omega
              case rel =>
                have em : k + 1 - jp = k + 1 - (jp + 1) + 1 := by omega
                refine ⟨jp, by first | rfl | go_num, by omega, Nat.le_refl _, ?_, ?_, ?_⟩
                · show ∀ a ∈ rp.take (k + 1 - jp), key x < key a
                  rw [em, List.take_add_one, hyH.out]
                  intro a ha
                  rcases List.mem_append.1 ha with ha | ha
                  · exact hbig.out a ha
                  · simp at ha
                    subst ha
                    exact hlt2
                · show RowL _ g (row rp (k + 1 - jp) x R)
                  rw [em, hrbH.out]
                  exact RowL.keep hswap.out rfl
                · exact o_drew (o_set (o_set hgrq.out (.inl rfl)) (.inl rfl))
          · have hdc : decide (cmp3 (key x) (key y) < 0) = false := decide_eq_false (by unfold cmp3; rw [if_neg hlt2]; split <;> decide)
            have hfin : Hid (row rp (k + 1 - (jp + 1)) x R = (insR key x rp).reverse ++ R) := row_done R (by rw [hrlH.out]; omega) hbig.out (fun a ha => by
              rw [hyH.out] at ha
              cases ha
              exact hlt2)
            go_wp2_with fail
            (refine wp_region_past (by kernel_rfl) (by kernel_rfl) ?_; (repeat (first | go_big_quiet_step ((go_at_call 84; exact past_call _ (hcmpH.out _ _ _ (by assumption) (by assumption) (o_call hgr2.out (Past.h _))))) | quiet_step ((go_at_call 84; exact past_call _ (hcmpH.out _ _ _ (by assumption) (by assumption) (o_call hgr2.out (Past.h _))))))); refine wpQuiet_nil ?_; intro wq hq)
            have hgrq : Hid (w.grownBy wq (some g)) := o_call hgr2.out hq
            have hrowq : Hid (RowL wq g ((insR key x rp).reverse ++ R)) := by
              show RowL _ _ _
              rw [← hfin.out]
              exact hrow2.out.keep (hq.block g (by omega))
            clear hrow2 hgr2 cyp cxp hrow3H hq
            go_wp2
            go_roundg (xs.length - (k + 1))
            case measure => omega
            case rel => exact ⟨k + 1, by go_num, Nat.le_refl _, by omega, (show Hid _ from by rw [hnext.out, ← hReH.out]; exact hrowq.out), hgrq⟩
    · go_wp2
      go_end0
      refine ⟨rfl, ?_, hgr.out⟩
      have h := hrow.out
      have hd : xs.drop (k + 1) = [] := List.drop_eq_nil_of_le (by omega)
      have hi : ins key xs (k + 1) = ins key xs xs.length := by
        unfold ins
        rw [List.take_of_length_le (by omega), List.take_of_length_le (Nat.le_refl _)]
      rw [hd, hi, List.append_nil] at h
      exact h
end Go.Proofs.YtbeapddadogfaaaGreatDoor
