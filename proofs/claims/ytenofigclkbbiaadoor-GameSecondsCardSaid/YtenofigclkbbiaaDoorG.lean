/-
  The program goes through a card: Replay.
-/
import Derived.Test.YtenofigclkbbiaaDoorF
set_option linter.unusedVariables false
set_option linter.unusedSimpArgs false
namespace Go.Proofs.YtenofigclkbbiaaDoor
open Go.RowKit Go.Shelf
open Game
set_option maxHeartbeats 1000000 in
theorem pReplay_1 (m : Mt) (first : Int) (A : Option Addr) (cap : Nat) (card : List Ln) (con : Int) (w : World) (h1 : checkMatch m = false) :
    Calls Tryd.prog 11 #[mval m, .int .i64 first, .slice A card.length cap, .int .i64 con] w fun e w' => e = .returned (.tuple #[sval St.zero, .int .i64 (-1), .int .i64 2]) ∧ Below w.heap.size w w' := by
  go_enter Tryd.func11, Tryd.ntmps11
  go_wp2_with (first
    | (go_at_call 17; refine (CheckMatch_any _ _).mono ?_; rintro e w1 ⟨rfl, hb1⟩; obtain ⟨hc1, hf1⟩ := bcell hb1; have hz1 : w.heap.size + 1 + 1 < w1.heap.size := by have := hb1.size; simp at this; omega)
    | (go_at_call 39; refine (within_any _ _ _ _).mono ?_; rintro e w' ⟨rfl, rfl⟩))
  all_goals
    apply bodyPost_ret
    · simp [results, Tryd.results11, go_sem, *]; rfl
    · rfl
    · exact ⟨rfl, by (repeat (first | (with_reducible exact Below.refl _ _) | (with_reducible assumption) | (with_reducible refine b_alloc ?_) | (with_reducible refine b_drew ?_) | (with_reducible refine b_drewN ?_) | (with_reducible refine b_set ?_ (by first | (simp; done) | (dsimp only; omega))) | (with_reducible refine b_call ?_ (by assumption))))⟩
set_option maxHeartbeats 1000000 in
theorem pReplay_2 (m : Mt) (first : Int) (A : Option Addr) (cap : Nat) (card : List Ln) (con : Int) (w : World) (h1 : checkMatch m = true) (h2 : wi first 0 1 = false) :
    Calls Tryd.prog 11 #[mval m, .int .i64 first, .slice A card.length cap, .int .i64 con] w fun e w' => e = .returned (.tuple #[sval St.zero, .int .i64 (-1), .int .i64 2]) ∧ Below w.heap.size w w' := by
  go_enter Tryd.func11, Tryd.ntmps11
  go_wp2_with (first
    | (go_at_call 17; refine (CheckMatch_any _ _).mono ?_; rintro e w1 ⟨rfl, hb1⟩; obtain ⟨hc1, hf1⟩ := bcell hb1; have hz1 : w.heap.size + 1 + 1 < w1.heap.size := by have := hb1.size; simp at this; omega)
    | (go_at_call 39; refine (within_any _ _ _ _).mono ?_; rintro e w' ⟨rfl, rfl⟩))
  all_goals
    apply bodyPost_ret
    · simp [results, Tryd.results11, go_sem, *]; rfl
    · rfl
    · exact ⟨rfl, by (repeat (first | (with_reducible exact Below.refl _ _) | (with_reducible assumption) | (with_reducible refine b_alloc ?_) | (with_reducible refine b_drew ?_) | (with_reducible refine b_drewN ?_) | (with_reducible refine b_set ?_ (by first | (simp; done) | (dsimp only; omega))) | (with_reducible refine b_call ?_ (by assumption))))⟩
set_option maxHeartbeats 1000000 in
theorem pReplay_3 (m : Mt) (first : Int) (A : Option Addr) (cap : Nat) (card : List Ln) (con : Int) (w : World) (h1 : checkMatch m = true) (h2 : wi first 0 1 = true) (h3 : wi con (-1) 1 = false) :
    Calls Tryd.prog 11 #[mval m, .int .i64 first, .slice A card.length cap, .int .i64 con] w fun e w' => e = .returned (.tuple #[sval St.zero, .int .i64 (-1), .int .i64 2]) ∧ Below w.heap.size w w' := by
  go_enter Tryd.func11, Tryd.ntmps11
  go_wp2_with (first
    | (go_at_call 17; refine (CheckMatch_any _ _).mono ?_; rintro e w1 ⟨rfl, hb1⟩; obtain ⟨hc1, hf1⟩ := bcell hb1; have hz1 : w.heap.size + 1 + 1 < w1.heap.size := by have := hb1.size; simp at this; omega)
    | (go_at_call 39; refine (within_any _ _ _ _).mono ?_; rintro e w' ⟨rfl, rfl⟩))
  all_goals
    apply bodyPost_ret
    · simp [results, Tryd.results11, go_sem, *]; rfl
    · rfl
    · exact ⟨rfl, by (repeat (first | (with_reducible exact Below.refl _ _) | (with_reducible assumption) | (with_reducible refine b_alloc ?_) | (with_reducible refine b_drew ?_) | (with_reducible refine b_drewN ?_) | (with_reducible refine b_set ?_ (by first | (simp; done) | (dsimp only; omega))) | (with_reducible refine b_call ?_ (by assumption))))⟩
set_option maxHeartbeats 1000000 in
theorem pReplay_4 (m : Mt) (first : Int) (A : Option Addr) (cap : Nat) (card : List Ln) (con : Int) (w : World) (h1 : checkMatch m = true) (h2 : wi first 0 1 = true) (h3 : wi con (-1) 1 = true) (h4 : 40 < card.length) :
    Calls Tryd.prog 11 #[mval m, .int .i64 first, .slice A card.length cap, .int .i64 con] w fun e w' => e = .returned (.tuple #[sval St.zero, .int .i64 (-1), .int .i64 3]) ∧ Below w.heap.size w w' := by
  go_enter Tryd.func11, Tryd.ntmps11
  go_wp2_with (first
    | (go_at_call 17; refine (CheckMatch_any _ _).mono ?_; rintro e w1 ⟨rfl, hb1⟩; obtain ⟨hc1, hf1⟩ := bcell hb1; have hz1 : w.heap.size + 1 + 1 < w1.heap.size := by have := hb1.size; simp at this; omega)
    | (go_at_call 39; refine (within_any _ _ _ _).mono ?_; rintro e w' ⟨rfl, rfl⟩))
  all_goals
    apply bodyPost_ret
    · simp [results, Tryd.results11, go_sem, *]; rfl
    · rfl
    · exact ⟨rfl, by (repeat (first | (with_reducible exact Below.refl _ _) | (with_reducible assumption) | (with_reducible refine b_alloc ?_) | (with_reducible refine b_drew ?_) | (with_reducible refine b_drewN ?_) | (with_reducible refine b_set ?_ (by first | (simp; done) | (dsimp only; omega))) | (with_reducible refine b_call ?_ (by assumption))))⟩

attribute [local go_sem] Oper.semAt_some
/-- The last one that came. -/
def lastOf (pre : List (Nat × St)) : Nat × St := pre.getLast?.getD (0, St.zero)
theorem lastOf_snoc (pre : List (Nat × St)) (x : Nat × St) : lastOf (pre ++ [x]) = x := by simp [lastOf]
theorem last_states (m : Mt) (s : St) (k : Nat) (l : List Ln) (d : Nat × St) : (statesFrom m s k l).getLast?.getD d = (match walk m s k l with | (t, some i) => (i, t) | (t, none) => (k + l.length, t)) := by
  induction l generalizing s k d with
  | nil => rfl
  | cons x r ih =>
    by_cases h : fits m s x = true
    · rw [walk_step h]
      simp only [statesFrom, if_pos h, List.getLast?_cons, Option.getD_some]
      rw [ih]
      rcases walk m (behind m s x) (k + 1) r with ⟨t, (_ | i)⟩
      · simp; omega
      · rfl
    · have hf := Bool.eq_false_iff.2 h
      rw [walk_stop hf]
      simp [statesFrom, hf]
def IntAt (w : World) (g : Nat) (n : Int) : Prop := w.heap[g]? = some (.cells #[.int .i64 n] 3 (0, 0))
theorem IntAt.cells {w : World} {g : Nat} {n : Int} (h : IntAt w g n) : w.cell? ⟨g, 0, none⟩ = some (.int .i64 n) ∧ (∀ o, w.frozen? ⟨g, o, none⟩ = false) ∧ g < w.heap.size := by
  have hl := (Array.getElem?_eq_some_iff.1 h).1
  unfold IntAt at h
  exact ⟨by simp [World.cell?, h], fun o => by simp [World.frozen?, h], hl⟩
theorem IntAt.kept {w W : World} {g : Nat} {n : Int} (h : IntAt w g n) (hb : W.heap[g]? = w.heap[g]?) : IntAt W g n := hb.trans h
theorem IntAt.store {w : World} {g : Nat} {n : Int} (h : IntAt w g n) (u : Int) : IntAt (w.setCell ⟨g, 0, none⟩ (.int .i64 u)) g u := by
  unfold IntAt at h ⊢
  simp [World.setCell, Array.getElem?_modify, h]
theorem kf_set {B : Nat} {W W' : World} {a : Addr} {v : Value} (h : KeepsFrom B W W') : KeepsFrom B W (W'.setCell a v) := h.trans ((KeepsOthers.setCell _ _ _).from _)
theorem kf_drew {B : Nat} {W W' : World} (h : KeepsFrom B W W') : KeepsFrom B W W'.drew := ⟨h.size, h.same⟩
theorem kf_drewN {B n : Nat} {W W' : World} (h : KeepsFrom B W W') : KeepsFrom B W (W'.drewN n) := ⟨h.size, h.same⟩
theorem kf_alloc {B : Nat} {W W' : World} {o : Obj} (h : KeepsFrom B W W') : KeepsFrom B W (W'.alloc o) := h.trans ((KeepsOthers.alloc _ _).from _)
theorem b_put {w W : World} {D : Nat} {o : Obj} (h : Below w.heap.size w W) (hD : w.heap.size ≤ D) : Below w.heap.size w (W.putObj D o) := b_grown h (grownBy_putObj' W D o) hD
theorem put_cell {w : World} {D : Nat} {o : Obj} {a : Addr} (h : a.block ≠ D) : (w.putObj D o).cell? a = w.cell? a := World.cell?_of_block (World.putObj_heap_other h)
theorem kp_set {lo hi : Nat} {W W' : World} {a : Addr} {v : Value} (h : Kp lo hi W W') (h1 : lo ≤ a.block) (h2 : a.block < hi) : Kp lo hi W (W'.setCell a v) :=
  h.trans ⟨by simp [World.setCell], fun i o e _ e2 => (heap_set (by omega)).trans e⟩
theorem walk_some {m : Mt} {s t : St} {k i : Nat} {l : List Ln} (h : walk m s k l = (t, some i)) : k ≤ i ∧ i < k + l.length := by
  induction l generalizing s k with
  | nil => simp [walk] at h
  | cons x r ih =>
    by_cases hf : fits m s x = true
    · rw [walk_step hf] at h
      have := ih h
      simp only [List.length_cons]
      omega
    · rw [walk_stop (Bool.eq_false_iff.2 hf)] at h
      cases h
      simp
set_option maxHeartbeats 4000000 in
set_option maxRecDepth 100000 in
theorem pReplay_5 (m : Mt) (first : Int) (A : Option Addr) (cap : Nat) (card : List Ln) (con : Int) (w : World) (hc : Card w A card) (h1 : checkMatch m = true) (h2 : wi first 0 1 = true) (h3 : wi con (-1) 1 = true) (h4 : card.length ≤ 40) :
    CallsIn Fence.wide 0 Tryd.prog 11 #[mval m, .int .i64 first, .slice A card.length cap, .int .i64 con] w fun e w' =>
      e = .returned (.tuple #[sval (replay m first card con).1, .int .i64 (replay m first card con).2.1, .int .i64 (replay m first card con).2.2]) ∧ Below w.heap.size w w' := by
  refine callsIn_of_wp_marks Tryd.func11 rfl trivial ?_ rfl
  simp only [Tryd.ntmps11, List.size_toArray, List.length_cons, List.length_nil, Nat.reduceAdd, Nat.reduceSub, Array.replicate_succ, Array.replicate_zero, List.push_toArray, List.append_toArray, List.nil_append, List.cons_append]
  gi_wp2_with (refine ⟨trivial, rfl, ?_⟩; first
    | (gi_at_call 17; refine (callsIn_wide.2 (CheckMatch_any _ _)).mono ?_; rintro e w1 ⟨rfl, hb1⟩; obtain ⟨hc1, hf1⟩ := bcell hb1; have hz1 : w.heap.size + 1 + 1 < w1.heap.size := by have := hb1.size; simp at this; omega)
    | (gi_at_call 39; refine (callsIn_wide.2 (within_any _ _ _ _)).mono ?_; rintro e w' ⟨rfl, rfl⟩)
    | (gi_at_call 40; refine (callsIn_wide.2 (states_any _ _ _ _ _ _)).mono ?_; rintro e w2 ⟨rfl, hcap, hsz2, hb2⟩))
  have hB2 := b_call (b_call (b_alloc (b_alloc (b_alloc (Below.refl w.heap.size w)))) hb1) hb2
  have hcC := hc.in_.below hB2 (Nat.le_refl _)
  have hlt2 : w1.heap.size ≤ w2.heap.size := hb2.size
  have hM : MtAt w2 w.heap.size m := by
    refine MtAt.kept (w := w1) ?_ (hb2.block _ (by omega))
    exact (hb1.block _ (by simp; omega)).trans ((alloc_old _ _ (by simp; omega)).trans ((alloc_old _ _ (by simp)).trans (alloc_at w _)))
  have hS : StAt w2 (w.heap.size + 1) St.zero := by
    refine StAt.kept (w := w1) ?_ (hb2.block _ (by omega))
    exact (hb1.block _ (by simp)).trans ((alloc_old _ _ (by simp)).trans (by have := alloc_at (w.alloc (.cells #[.int .i64 m.ends, .int .i64 m.most, .int .i64 m.early, .bool m.change, .bool m.power] 23)) (.cells #[.int .i64 0, .int .i64 0, .int .i64 0, .int .i64 0, .int .i64 0, .bool false, .bool false, .bool false, .bool false] 29); simpa [St.zero] using this))
  have hA : IntAt w2 (w.heap.size + 1 + 1) 0 := by
    refine IntAt.kept (w := w1) ?_ (hb2.block _ (by omega))
    exact (hb1.block _ (by simp)).trans (by have := alloc_at ((w.alloc (.cells #[.int .i64 m.ends, .int .i64 m.most, .int .i64 m.early, .bool m.change, .bool m.power] 23)).alloc (.cells #[.int .i64 0, .int .i64 0, .int .i64 0, .int .i64 0, .int .i64 0, .bool false, .bool false, .bool false, .bool false] 29)) (.cells #[.int .i64 0] 3); simpa using this)
  clear hc1 hf1
  have hg := states1_gives m first A cap card w1.heap.size w.heap.size (w.heap.size + 1 + 1 + 1) w2 hcC hcap (by omega) (by omega) h1 h2 h4
  refine range_law (gf := 60) (lb := #[.pointer (some ⟨w1.heap.size, 0, none⟩), .pointer (some ⟨w1.heap.size + 1, 0, none⟩), .pointer (some ⟨w1.heap.size + 1 + 1, 0, none⟩)]) rfl (enters_of Tryd.func60 (by kernel_rfl) rfl) hg
    (fun o ho => by obtain ⟨cs, f, rfl⟩ := ho; rfl) Kp.trans (fun W l o o' _ h ho => Kp.putObj W l o o' h ho) (Below.refl _ _) (fun _ => rfl)
    (fun pre W => StAt W (w.heap.size + 1) (lastOf pre).2 ∧ IntAt W (w.heap.size + 1 + 1) (lastOf pre).1 ∧ MtAt W w.heap.size m ∧ Below w.heap.size w W ∧ w2.heap.size ≤ W.heap.size)
    (abz_below (fun s W h => h.2.2.2.2) (fun s W W' h hb => ⟨h.1.kept (hb.block _ (by omega)), h.2.1.kept (hb.block _ (by omega)), h.2.2.1.kept (hb.block _ (by omega)), h.2.2.2.1.trans (hb.mono (by omega)), Nat.le_trans h.2.2.2.2 hb.size⟩))
    ⟨hS, hA, hM, hB2, Nat.le_refl _⟩
    (fun T x a' W => ∃ X, StAt W X x.2 ∧ w2.heap.size ≤ X ∧ a' = { tmps := (((T.setIfInBounds 38 (.int .i64 x.1)).setIfInBounds 39 (sval x.2)).setIfInBounds 11 (.int .i64 x.1)).setIfInBounds 12 (.pointer (some ⟨X, 0, none⟩)), defers := [] })
    (fun T x a' s W W' row hs hg hr => by
      obtain ⟨X, hX, hX2, e⟩ := hs
      exact ⟨X, hX.kept (hg.block X (Array.getElem?_eq_some_iff.1 hX).1 (fun e => by obtain ⟨_, o, ho, hn⟩ := hr X e.symm; rw [hX] at ho; cases ho; cases hn)), hX2, e⟩)
    ?assign ?body ?done
  case assign =>
    intro l pre x W K hI hK
    simp only [encs]
    gi_wp2
    refine hK _ _ ((KeepsOthers.alloc _ _).from _) ⟨by simp, fun i o h1 h2 h3 => (alloc_old _ _ (Array.getElem?_eq_some_iff.1 h1).1).trans h1⟩ ?_ ⟨W.heap.size, alloc_at _ _, hI.2.2.2.2, ?_⟩
    · exact ⟨hI.1.kept (alloc_old _ _ (by have := hI.2.2.2.2; omega)), hI.2.1.kept (alloc_old _ _ (by have := hI.2.2.2.2; omega)), hI.2.2.1.kept (alloc_old _ _ (by have := hI.2.2.2.2; omega)), b_alloc hI.2.2.2.1, by have := hI.2.2.2.2; simp; omega⟩
    · rfl
  case body =>
    rintro l pre x a' W ⟨iS, iA, iM, iB, iz⟩ ⟨X, hX, hX2, rfl⟩ _
    obtain ⟨s0, s1, s2, s3, s4, s5, s6, s7, s8, sf, sz⟩ := iS.cells
    obtain ⟨a0, af, az⟩ := iA.cells
    obtain ⟨q0, q1, q2, q3, q4, q5, q6, q7, q8, qf, qz⟩ := hX.cells
    simp only [List.setIfInBounds_toArray, List.set_cons_zero, List.set_cons_succ]
    gi_wp2
    have hk9 : ∀ {v0 v1 v2 v3 v4 v5 v6 v7 v8 v9 : Value}, KeepsFrom w2.heap.size W ((((((((((W.setCell ⟨w.heap.size + 1, 0, none⟩ v0).setCell ⟨w.heap.size + 1, 1, none⟩ v1).setCell ⟨w.heap.size + 1, 2, none⟩ v2).setCell ⟨w.heap.size + 1, 3, none⟩ v3).setCell ⟨w.heap.size + 1, 4, none⟩ v4).setCell ⟨w.heap.size + 1, 5, none⟩ v5).setCell ⟨w.heap.size + 1, 6, none⟩ v6).setCell ⟨w.heap.size + 1, 7, none⟩ v7).setCell ⟨w.heap.size + 1, 8, none⟩ v8).setCell ⟨w.heap.size + 1 + 1, 0, none⟩ v9) :=
      kf_set (kf_set (kf_set (kf_set (kf_set (kf_set (kf_set (kf_set (kf_set (kf_set (KeepsFrom.refl _ _))))))))))
    refine ⟨hk9, ?_, ?_, ?_, ?_, ?_, ?_⟩
    · repeat (first | (with_reducible refine kp_set ?_ (by dsimp only; omega) (by dsimp only; omega)) | exact ⟨Nat.le_refl _, fun _ _ h _ _ => h⟩)
    · rw [lastOf_snoc]
      exact (iS.store x.2).kept (heap_set (by simp))
    · rw [lastOf_snoc]
      exact (iA.kept (heap_set9 (by omega))).store x.1
    · exact iM.kept ((heap_set (by simp; omega)).trans (heap_set9 (by omega)))
    · exact b_set (b_set9 iB (by omega)) (by simp; omega)
    · simpa [World.setCell] using iz
  case done =>
    rintro D W hD ⟨iS, iA, iM, iB, iz⟩ hK
    have hlast := last_states m (St.begun first) 0 card (0, St.zero)
    change lastOf _ = _ at hlast
    rw [hlast] at iS iA
    clear hlast hg hS hA hM
    obtain ⟨q0, q1, q2, q3, q4, qf, qz⟩ := iM.cells
    have hDlt : w.heap.size + 1 + 1 < D := by omega
    rcases hw : walk m (St.begun first) 0 card with ⟨t, (_ | i)⟩
    · rw [hw] at iS iA
      simp only [Nat.zero_add] at iS iA
      have hr0 : replay m first card con = (if con = -1 then (t, -1, 0) else if t.over = true ∨ t.ends < m.early then (St.zero, (card.length : Int), 9) else (t.ended (1 - con), -1, 0)) := by
        simp [replay, h1, h2, h3, hw]; omega
      clear hw
      obtain ⟨s0, s1, s2, s3, s4, s5, s6, s7, s8, sf, sz⟩ := iS.cells
      obtain ⟨a0, af, az⟩ := iA.cells
      have hn1 : w.heap.size + 1 ≠ D := by omega
      have hn2 : w.heap.size + 1 + 1 ≠ D := by omega
      have hcb : con = -1 ∨ con = 0 ∨ con = 1 := by simp [wi] at h3; omega
      rcases hcb with rfl | hcb
      · have hr' := Lib.hid hr0
        clear hr0
        gi_wp2
        refine leave_mark (D := D) (v := .tuple #[sval (replay m first card (-1)).1, .int .i64 (replay m first card (-1)).2.1, .int .i64 (replay m first card (-1)).2.2]) (KeepsFrom.same (B := w2.heap.size) (W := W) ?_ D _ hD hK rfl) ?_ ?_
        · repeat (first | (with_reducible refine kf_set ?_) | (with_reducible refine kf_drew ?_) | (with_reducible refine kf_alloc ?_) | exact KeepsFrom.refl _ _)
        · rw [hr'.out]; simp [results, Tryd.results11, go_sem, put_cell, hn1, hn2, St.ended, St.zero, *]
        · exact ⟨rfl, b_put (by (repeat (first | (with_reducible exact Below.refl _ _) | (with_reducible assumption) | (with_reducible refine b_alloc ?_) | (with_reducible refine b_drew ?_) | (with_reducible refine b_drewN ?_) | (with_reducible refine b_set ?_ (by first | (simp; done) | (dsimp only; omega))) | (with_reducible refine b_call ?_ (by assumption))))) (by omega)⟩
      · have hne : con ≠ -1 := by omega
        have hne' : (con == -1) = false := by simpa using hne
        rw [if_neg hne] at hr0
        by_cases ho : t.over = true
        · rw [if_pos (.inl ho)] at hr0
          have hr' := Lib.hid hr0
          clear hr0
          gi_wp2
          gi_region
          all_goals
            gi_wp2
            refine leave_mark (D := D) (v := .tuple #[sval (replay m first card con).1, .int .i64 (replay m first card con).2.1, .int .i64 (replay m first card con).2.2]) (KeepsFrom.same (B := w2.heap.size) (W := W) ?_ D _ hD hK rfl) ?_ ?_
            · repeat (first | (with_reducible refine kf_set ?_) | (with_reducible refine kf_drew ?_) | (with_reducible refine kf_alloc ?_) | exact KeepsFrom.refl _ _)
            · rw [hr'.out]; simp [results, Tryd.results11, go_sem, put_cell, hn1, hn2, St.ended, St.zero, *]
            · exact ⟨rfl, b_put (by (repeat (first | (with_reducible exact Below.refl _ _) | (with_reducible assumption) | (with_reducible refine b_alloc ?_) | (with_reducible refine b_drew ?_) | (with_reducible refine b_drewN ?_) | (with_reducible refine b_set ?_ (by first | (simp; done) | (dsimp only; omega))) | (with_reducible refine b_call ?_ (by assumption))))) (by omega)⟩
        · have ho' := Bool.eq_false_iff.2 ho
          by_cases he : t.ends < m.early
          · rw [if_pos (.inr he)] at hr0
            have hr' := Lib.hid hr0
            clear hr0
            gi_wp2
            gi_region
            all_goals
              gi_wp2
              refine leave_mark (D := D) (v := .tuple #[sval (replay m first card con).1, .int .i64 (replay m first card con).2.1, .int .i64 (replay m first card con).2.2]) (KeepsFrom.same (B := w2.heap.size) (W := W) ?_ D _ hD hK rfl) ?_ ?_
              · repeat (first | (with_reducible refine kf_set ?_) | (with_reducible refine kf_drew ?_) | (with_reducible refine kf_alloc ?_) | exact KeepsFrom.refl _ _)
              · rw [hr'.out]; simp [results, Tryd.results11, go_sem, put_cell, hn1, hn2, St.ended, St.zero, *]
              · exact ⟨rfl, b_put (by (repeat (first | (with_reducible exact Below.refl _ _) | (with_reducible assumption) | (with_reducible refine b_alloc ?_) | (with_reducible refine b_drew ?_) | (with_reducible refine b_drewN ?_) | (with_reducible refine b_set ?_ (by first | (simp; done) | (dsimp only; omega))) | (with_reducible refine b_call ?_ (by assumption))))) (by omega)⟩
          · rw [if_neg (by rintro (h | h); exact ho h; exact he h)] at hr0
            have hr' := Lib.hid hr0
            clear hr0
            gi_wp2_with fail
            refine ⟨trivial, rfl, ?_⟩
            refine (callsIn_wide.2 (end_any W.heap.size t m (1 - con) _ (by constructor <;> simp [go_sem, *]))).mono ?_
            rintro e W9 ⟨rfl, hG9, hO9⟩
            have hB9 := b_only (b_alloc iB) hO9 (by omega)
            have iS9 : StAt W9 (w.heap.size + 1) t := iS.kept ((hO9.block _ (by simp; omega) (fun e => absurd (Option.some.inj e) (by omega))).trans (alloc_old _ _ (by omega)))
            have iA9 : IntAt W9 (w.heap.size + 1 + 1) card.length := iA.kept ((hO9.block _ (by simp; omega) (fun e => absurd (Option.some.inj e) (by omega))).trans (alloc_old _ _ (by omega)))
            have hDW : D < W.heap.size := (Array.getElem?_eq_some_iff.1 hK).1
            have hK9 : W9.heap[D]? = some (.deferred (some [])) := (hO9.block _ (by simp; omega) (fun e => absurd (Option.some.inj e) (by omega))).trans ((alloc_old _ _ hDW).trans hK)
            clear s0 s1 s2 s3 s4 s5 s6 s7 s8 sf a0 af q0 q1 q2 q3 q4 qf hK iB
            obtain ⟨s0, s1, s2, s3, s4, s5, s6, s7, s8, sf, sz9⟩ := iS9.cells
            obtain ⟨a0, af, az9⟩ := iA9.cells
            obtain ⟨g0, g1, g2, g3, g4, g5, g6, g7, g8, g9, g10, g11, g12, g13, gf⟩ := hG9
            simp only [St.ended] at g0 g1 g2 g3 g4 g5 g6 g7 g8
            gi_wp2
            refine leave_mark (D := D) (v := .tuple #[sval (replay m first card con).1, .int .i64 (replay m first card con).2.1, .int .i64 (replay m first card con).2.2]) (KeepsFrom.same (B := w2.heap.size) (W := W9) ?_ D _ hD hK9 rfl) ?_ ?_
            · repeat (first | (with_reducible refine kf_set ?_) | (with_reducible refine kf_drew ?_) | (with_reducible refine kf_alloc ?_) | exact KeepsFrom.refl _ _)
            · rw [hr'.out]; simp [results, Tryd.results11, go_sem, put_cell, hn1, hn2, St.ended, St.zero, *]
            · exact ⟨rfl, b_put (by (repeat (first | (with_reducible exact Below.refl _ _) | (with_reducible assumption) | (with_reducible refine b_alloc ?_) | (with_reducible refine b_drew ?_) | (with_reducible refine b_drewN ?_) | (with_reducible refine b_set ?_ (by first | (simp; done) | (dsimp only; omega))) | (with_reducible refine b_call ?_ (by assumption))))) (by omega)⟩
    · rw [hw] at iS iA
      simp only at iS iA
      have hi := walk_some hw
      have hr : replay m first card con = (St.zero, (i : Int), 2) := by simp [replay, h1, h2, h3, hw]; omega
      have hr' := Lib.hid hr
      clear hr hw
      obtain ⟨s0, s1, s2, s3, s4, s5, s6, s7, s8, sf, sz⟩ := iS.cells
      obtain ⟨a0, af, az⟩ := iA.cells
      have hn1 : w.heap.size + 1 ≠ D := by omega
      have hn2 : w.heap.size + 1 + 1 ≠ D := by omega
      gi_wp2
      gi_region
      all_goals
        gi_wp2
        refine leave_mark (D := D) (v := .tuple #[sval (replay m first card con).1, .int .i64 (replay m first card con).2.1, .int .i64 (replay m first card con).2.2]) (KeepsFrom.same (B := w2.heap.size) (W := W) ?_ D _ hD hK rfl) ?_ ?_
        · repeat (first | (with_reducible refine kf_set ?_) | (with_reducible refine kf_drew ?_) | (with_reducible refine kf_alloc ?_) | exact KeepsFrom.refl _ _)
        · rw [hr'.out]; simp [results, Tryd.results11, go_sem, put_cell, hn1, hn2, St.ended, St.zero, *]
        · exact ⟨rfl, b_put (by (repeat (first | (with_reducible exact Below.refl _ _) | (with_reducible assumption) | (with_reducible refine b_alloc ?_) | (with_reducible refine b_drew ?_) | (with_reducible refine b_drewN ?_) | (with_reducible refine b_set ?_ (by first | (simp; done) | (dsimp only; omega))) | (with_reducible refine b_call ?_ (by assumption))))) (by omega)⟩
theorem pReplay_any (m : Mt) (first : Int) (A : Option Addr) (cap : Nat) (card : List Ln) (con : Int) (w : World) (hc : Card w A card) :
    Calls Tryd.prog 11 #[mval m, .int .i64 first, .slice A card.length cap, .int .i64 con] w fun e w' =>
      e = .returned (.tuple #[sval (replay m first card con).1, .int .i64 (replay m first card con).2.1, .int .i64 (replay m first card con).2.2]) ∧ Below w.heap.size w w' := by
  by_cases h1 : checkMatch m = true
  · by_cases h2 : wi first 0 1 = true
    · by_cases h3 : wi con (-1) 1 = true
      · by_cases h4 : card.length ≤ 40
        · exact callsIn_wide.1 (pReplay_5 m first A cap card con w hc h1 h2 h3 h4)
        · have e : replay m first card con = (St.zero, -1, 3) := by simp [replay, h1, h2, h3]; omega
          rw [e]
          exact pReplay_4 m first A cap card con w h1 h2 h3 (by omega)
      · have h3' := Bool.eq_false_iff.2 h3
        have e : replay m first card con = (St.zero, -1, 2) := by simp [replay, h1, h2, h3']
        rw [e]
        exact pReplay_3 m first A cap card con w h1 h2 h3'
    · have h2' := Bool.eq_false_iff.2 h2
      have e : replay m first card con = (St.zero, -1, 2) := by simp [replay, h1, h2']
      rw [e]
      exact pReplay_2 m first A cap card con w h1 h2'
  · have h1' := Bool.eq_false_iff.2 h1
    have e : replay m first card con = (St.zero, -1, 2) := by simp [replay, h1']
    rw [e]
    exact pReplay_1 m first A cap card con w h1'
end Go.Proofs.YtenofigclkbbiaaDoor
