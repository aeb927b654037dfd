/-
  The program's own state of a game: begin, end, play.
-/
import Derived.Test.YtenofigclkbbiaaDoorC
import Derived.Test.YtenofigclkbbiaaDoorOnly
import Derived.Deep.DeepCutAuto
import Derived.Deep.CutBlock
set_option linter.unusedVariables false
set_option linter.unusedSimpArgs false
namespace Go.Proofs.YtenofigclkbbiaaDoor
open Go.RowKit
open Game

/-- A game's state in a block of its own. -/
structure GameAt (w : World) (g : Nat) (s : St) (m : Mt) : Prop where
  c0 : w.cell? ⟨g, 0, none⟩ = some (.int .i64 s.p0)
  c1 : w.cell? ⟨g, 1, none⟩ = some (.int .i64 s.p1)
  c2 : w.cell? ⟨g, 2, none⟩ = some (.int .i64 s.ends)
  c3 : w.cell? ⟨g, 3, none⟩ = some (.int .i64 s.hammer)
  c4 : w.cell? ⟨g, 4, none⟩ = some (.int .i64 s.winner)
  c5 : w.cell? ⟨g, 5, none⟩ = some (.bool s.over)
  c6 : w.cell? ⟨g, 6, none⟩ = some (.bool s.extra)
  c7 : w.cell? ⟨g, 7, none⟩ = some (.bool s.w0)
  c8 : w.cell? ⟨g, 8, none⟩ = some (.bool s.w1)
  c9 : w.cell? ⟨g, 9, none⟩ = some (.int .i64 m.ends)
  c10 : w.cell? ⟨g, 10, none⟩ = some (.int .i64 m.most)
  c11 : w.cell? ⟨g, 11, none⟩ = some (.int .i64 m.early)
  c12 : w.cell? ⟨g, 12, none⟩ = some (.bool m.change)
  c13 : w.cell? ⟨g, 13, none⟩ = some (.bool m.power)
  fz : ∀ o, w.frozen? ⟨g, o, none⟩ = false
theorem GameAt.lt {w : World} {g : Nat} {s : St} {m : Mt} (h : GameAt w g s m) : g < w.heap.size := World.block_lt_of_cell? w _ h.c0
theorem GameAt.keep {w W : World} {g : Nat} {s : St} {m : Mt} (h : GameAt w g s m) (hb : W.heap[g]? = w.heap[g]?) : GameAt W g s m := by
  have e : ∀ o, W.cell? ⟨g, o, none⟩ = w.cell? ⟨g, o, none⟩ := fun o => World.cell?_of_block hb
  have f : ∀ o, W.frozen? ⟨g, o, none⟩ = w.frozen? ⟨g, o, none⟩ := fun o => by simp only [World.frozen?, hb]
  exact ⟨(e _).trans h.c0, (e _).trans h.c1, (e _).trans h.c2, (e _).trans h.c3, (e _).trans h.c4, (e _).trans h.c5, (e _).trans h.c6, (e _).trans h.c7, (e _).trans h.c8, (e _).trans h.c9, (e _).trans h.c10, (e _).trans h.c11, (e _).trans h.c12, (e _).trans h.c13, fun o => (f o).trans (h.fz o)⟩
theorem GameAt.below {w W : World} {g : Nat} {s : St} {m : Mt} (h : GameAt w g s m) (hb : Below w.heap.size w W) : GameAt W g s m := h.keep (hb.block g h.lt)

theorem begin_any (m : Mt) (first : Int) (w : World) : Calls Tryd.prog 61 #[mval m, .int .i64 first] w fun e w' => ∃ g, e = .returned (.pointer (some ⟨g, 0, none⟩)) ∧ w.heap.size ≤ g ∧ GameAt w' g (St.begun first) m ∧ Below w.heap.size w w' := by
  go_enter Tryd.func61, Tryd.ntmps61
  go_wp2
  go_ret
  exact ⟨_, rfl, by omega, by constructor <;> simp [go_sem, St.begun], by (repeat (first | (with_reducible exact Below.refl _ _) | (with_reducible assumption) | (with_reducible refine b_alloc ?_) | (with_reducible refine b_drew ?_) | (with_reducible refine b_drewN ?_) | (with_reducible refine b_set ?_ (by first | (simp; done) | (dsimp only; omega))) | (with_reducible refine b_call ?_ (by assumption))))⟩
theorem end_any (g : Nat) (s : St) (m : Mt) (winner : Int) (w : World) (h : GameAt w g s m) :
    Calls Tryd.prog 41 #[.pointer (some ⟨g, 0, none⟩), .int .i64 winner] w fun e w' => e = .returned (.tuple #[]) ∧ GameAt w' g (s.ended winner) m ∧ OnlyAt w w' g := by
  obtain ⟨c0, c1, c2, c3, c4, c5, c6, c7, c8, c9, c10, c11, c12, c13, fz⟩ := h
  go_enter Tryd.func41, Tryd.ntmps41
  go_wp2
  go_end0
  exact ⟨rfl, by constructor <;> simp [go_sem, St.ended, *], by (repeat (first | (with_reducible exact n_refl) | (with_reducible assumption) | (with_reducible refine n_alloc ?_) | (with_reducible refine n_drew ?_) | (with_reducible refine n_drewN ?_) | (with_reducible refine n_set ?_ (by first | (simp; done) | (dsimp only; omega))) | (with_reducible refine n_trans ?_ (by assumption)) | (with_reducible refine n_call ?_ (by assumption))))⟩
/-- A line in a block of its own. -/
structure LineAt (w : World) (g : Nat) (x : Ln) : Prop where
  c0 : w.cell? ⟨g, 0, none⟩ = some (.int .i64 x.team)
  c1 : w.cell? ⟨g, 1, none⟩ = some (.int .i64 x.points)
  c2 : w.cell? ⟨g, 2, none⟩ = some (.bool x.power)
theorem LineAt.lt {w : World} {g : Nat} {x : Ln} (h : LineAt w g x) : g < w.heap.size := World.block_lt_of_cell? w _ h.c0
theorem LineAt.keep {w W : World} {g : Nat} {x : Ln} (h : LineAt w g x) (hb : W.heap[g]? = w.heap[g]?) : LineAt W g x := by
  have e : ∀ o, W.cell? ⟨g, o, none⟩ = w.cell? ⟨g, o, none⟩ := fun o => World.cell?_of_block hb
  exact ⟨(e _).trans h.c0, (e _).trans h.c1, (e _).trans h.c2⟩
theorem LineAt.below {w W : World} {g : Nat} {x : Ln} (h : LineAt w g x) (hb : Below w.heap.size w W) : LineAt W g x := h.keep (hb.block g h.lt)
theorem LineAt.only {w W : World} {g k : Nat} {x : Ln} (h : LineAt w g x) (hb : OnlyAt w W k) (hk : g ≠ k) : LineAt W g x := h.keep (hb.block g h.lt (fun e => hk (by cases e; rfl)))
def st1 (s : St) (x : Ln) : St := { s with w0 := s.w0 || (x.power && decide (s.hammer = 0)), w1 := s.w1 || (x.power && decide (s.hammer = 1)) }
set_option maxRecDepth 100000 in
set_option maxHeartbeats 4000000 in
theorem play_any (g : Nat) (s : St) (m : Mt) (x : Ln) (w : World) (h : GameAt w g s m) (hx : x.team = -1 ∨ x.team = 0 ∨ x.team = 1) (hh : x.power = true → s.hammer = 0 ∨ s.hammer = 1)
    (h0 : 0 ≤ s.p0 ∧ s.p0 ≤ 1000000) (h1 : 0 ≤ s.p1 ∧ s.p1 ≤ 1000000) (h2 : 0 ≤ x.points ∧ x.points ≤ 1000000) (h3 : 0 ≤ s.ends ∧ s.ends ≤ 1000000) (h4 : -1 ≤ s.hammer ∧ s.hammer ≤ 1) :
    Calls Tryd.prog 65 #[.pointer (some ⟨g, 0, none⟩), xval x] w fun e w' => e = .returned (.tuple #[]) ∧ GameAt w' g (behind m s x) m ∧ OnlyAt w w' g := by
  have hlt := h.lt
  obtain ⟨te, po, pw⟩ := x
  obtain ⟨p0, p1, en, ha, wi, ov, ex, w0, w1⟩ := s
  obtain ⟨c0, c1, c2, c3, c4, c5, c6, c7, c8, c9, c10, c11, c12, c13, fz⟩ := h
  simp only at hx hh h0 h1 h2 h3 h4 c0 c1 c2 c3 c4 c5 c6 c7 c8
  go_enter Tryd.func65, Tryd.ntmps65
  go_upto_if 5 with fail
  go_cut [] (fun wx => GameAt wx g (st1 ⟨p0, p1, en, ha, wi, ov, ex, w0, w1⟩ ⟨te, po, pw⟩) m ∧ OnlyAt w wx g ∧ LineAt wx w.heap.size ⟨te, po, pw⟩)
  case first =>
    cases pw
    · go_wp2
      go_meet
      exact ⟨by constructor <;> simp [go_sem, st1, *], by (repeat (first | (with_reducible exact n_refl) | (with_reducible assumption) | (with_reducible refine n_alloc ?_) | (with_reducible refine n_drew ?_) | (with_reducible refine n_drewN ?_) | (with_reducible refine n_set ?_ (by first | (simp; done) | (dsimp only; omega))) | (with_reducible refine n_trans ?_ (by assumption)) | (with_reducible refine n_call ?_ (by assumption)))), by constructor <;> simp [go_sem]⟩
    · rcases hh rfl with h | h <;> subst h
      all_goals
        go_wp2
        go_region
        all_goals
          go_wp2
          go_meet
          exact ⟨by constructor <;> simp [go_sem, st1, *], by (repeat (first | (with_reducible exact n_refl) | (with_reducible assumption) | (with_reducible refine n_alloc ?_) | (with_reducible refine n_drew ?_) | (with_reducible refine n_drewN ?_) | (with_reducible refine n_set ?_ (by first | (simp; done) | (dsimp only; omega))) | (with_reducible refine n_trans ?_ (by assumption)) | (with_reducible refine n_call ?_ (by assumption)))), by constructor <;> simp [go_sem, *]⟩
  case rest =>
    obtain ⟨hG, hO, hL⟩ := hcut
    have hs2 := hO.size
    clear c0 c1 c2 c3 c4 c5 c6 c7 c8 c9 c10 c11 c12 c13 fz
    obtain ⟨c0, c1, c2, c3, c4, c5, c6, c7, c8, c9, c10, c11, c12, c13, fz⟩ := hG
    obtain ⟨l0, l1, l2⟩ := hL
    simp only [st1] at c0 c1 c2 c3 c4 c5 c6 c7 c8
    go_upto_block 0 with fail
    go_cut [] (fun wx => GameAt wx g { played m ⟨p0, p1, en, ha, wi, ov, ex, w0, w1⟩ ⟨te, po, pw⟩ with extra := ex } m ∧ OnlyAt w wx g)
    case first =>
      rcases hx with h | h | h <;> subst h
      · by_cases hch : m.change = true
        all_goals
          go_wp2
          go_meet
          exact ⟨by constructor <;> simp [go_sem, played, *], by (repeat (first | (with_reducible exact n_refl) | (with_reducible assumption) | (with_reducible refine n_alloc ?_) | (with_reducible refine n_drew ?_) | (with_reducible refine n_drewN ?_) | (with_reducible refine n_set ?_ (by first | (simp; done) | (dsimp only; omega))) | (with_reducible refine n_trans ?_ (by assumption)) | (with_reducible refine n_call ?_ (by assumption))))⟩
      all_goals
        go_wp2
        go_region
        all_goals
          go_wp2
          go_meet
          exact ⟨by constructor <;> simp [go_sem, played, *], by (repeat (first | (with_reducible exact n_refl) | (with_reducible assumption) | (with_reducible refine n_alloc ?_) | (with_reducible refine n_drew ?_) | (with_reducible refine n_drewN ?_) | (with_reducible refine n_set ?_ (by first | (simp; done) | (dsimp only; omega))) | (with_reducible refine n_trans ?_ (by assumption)) | (with_reducible refine n_call ?_ (by assumption))))⟩
    case rest =>
      clear c0 c1 c2 c3 c4 c5 c6 c7 c8 c9 c10 c11 c12 c13 fz l0 l1 l2 hO hs2
      obtain ⟨⟨c0, c1, c2, c3, c4, c5, c6, c7, c8, c9, c10, c11, c12, c13, fz⟩, hO⟩ := hcut
      have hbe : behind m ⟨p0, p1, en, ha, wi, ov, ex, w0, w1⟩ ⟨te, po, pw⟩ = (let t := played m ⟨p0, p1, en, ha, wi, ov, ex, w0, w1⟩ ⟨te, po, pw⟩; if t.extra = true ∧ t.p1 < t.p0 then t.ended 0 else if t.extra = true ∧ t.p0 < t.p1 then t.ended 1 else t) := rfl
      have hex : (played m ⟨p0, p1, en, ha, wi, ov, ex, w0, w1⟩ ⟨te, po, pw⟩).extra = decide (m.ends ≤ (played m ⟨p0, p1, en, ha, wi, ov, ex, w0, w1⟩ ⟨te, po, pw⟩).ends) := rfl
      generalize played m ⟨p0, p1, en, ha, wi, ov, ex, w0, w1⟩ ⟨te, po, pw⟩ = t at *
      obtain ⟨a0, a1, a2, a3, a4, a5, a6, a7, a8⟩ := t
      simp only at *
      have key : behind m ⟨p0, p1, en, ha, wi, ov, ex, w0, w1⟩ ⟨te, po, pw⟩ = if m.ends ≤ a2 ∧ a1 < a0 then St.ended ⟨a0, a1, a2, a3, a4, a5, true, a7, a8⟩ 0 else if m.ends ≤ a2 ∧ a0 < a1 then St.ended ⟨a0, a1, a2, a3, a4, a5, true, a7, a8⟩ 1 else ⟨a0, a1, a2, a3, a4, a5, decide (m.ends ≤ a2), a7, a8⟩ := by
        rw [hbe, hex]
        by_cases q : m.ends ≤ a2 <;> simp [q, St.ended]
      clear hbe hex
      have hkey := Lib.hid key
      clear key
      by_cases q : m.ends ≤ a2
      · rcases Int.lt_trichotomy a0 a1 with hlt' | heq | hgt
        · have hr : behind m ⟨p0, p1, en, ha, wi, ov, ex, w0, w1⟩ ⟨te, po, pw⟩ = St.ended ⟨a0, a1, a2, a3, a4, a5, true, a7, a8⟩ 1 := by rw [hkey.out, if_neg (by omega), if_pos ⟨q, hlt'⟩]
          have Hr := Lib.hid hr
          clear hr hkey
          go_wp2
          go_region
          all_goals
            go_wp2_with fail
            go_quiet (fail)
            go_wp2_with fail
            go_quiet (fail)
            go_wp2_with (go_at_call 41; refine (end_any g ⟨a0, a1, a2, a3, a4, a5, true, a7, a8⟩ m 1 _ (by constructor <;> simp [go_sem, *])).mono ?_; rintro e w9 ⟨rfl, hG9, hO9⟩)
            first | go_end0 | refine bodyPost_ret (results_none rfl _ _ _) rfl ?_
            exact ⟨rfl, by rw [Hr.out]; exact hG9, by (repeat (first | (with_reducible exact n_refl) | (with_reducible assumption) | (with_reducible refine n_alloc ?_) | (with_reducible refine n_drew ?_) | (with_reducible refine n_drewN ?_) | (with_reducible refine n_set ?_ (by first | (simp; done) | (dsimp only; omega))) | (with_reducible refine n_trans ?_ (by assumption)) | (with_reducible refine n_call ?_ (by assumption))))⟩
        · subst heq
          have hr : behind m ⟨p0, p1, en, ha, wi, ov, ex, w0, w1⟩ ⟨te, po, pw⟩ = ⟨a0, a0, a2, a3, a4, a5, true, a7, a8⟩ := by rw [hkey.out, if_neg (by omega), if_neg (by omega), decide_eq_true q]
          have Hr := Lib.hid hr
          clear hr hkey
          go_wp2
          go_region
          all_goals
            go_wp2_with fail
            go_quiet (fail)
            go_wp2_with fail
            go_quiet (fail)
            go_wp2
            first | go_end0 | refine bodyPost_ret (results_none rfl _ _ _) rfl ?_
            exact ⟨rfl, by rw [Hr.out]; constructor <;> simp [go_sem, *], by (repeat (first | (with_reducible exact n_refl) | (with_reducible assumption) | (with_reducible refine n_alloc ?_) | (with_reducible refine n_drew ?_) | (with_reducible refine n_drewN ?_) | (with_reducible refine n_set ?_ (by first | (simp; done) | (dsimp only; omega))) | (with_reducible refine n_trans ?_ (by assumption)) | (with_reducible refine n_call ?_ (by assumption))))⟩
        · have hr : behind m ⟨p0, p1, en, ha, wi, ov, ex, w0, w1⟩ ⟨te, po, pw⟩ = St.ended ⟨a0, a1, a2, a3, a4, a5, true, a7, a8⟩ 0 := by rw [hkey.out, if_pos ⟨q, hgt⟩]
          have Hr := Lib.hid hr
          clear hr hkey
          go_wp2
          go_region
          all_goals
            go_wp2_with fail
            go_quiet (fail)
            go_wp2_with (go_at_call 41; refine (end_any g ⟨a0, a1, a2, a3, a4, a5, true, a7, a8⟩ m 0 _ (by constructor <;> simp [go_sem, *])).mono ?_; rintro e w9 ⟨rfl, hG9, hO9⟩)
            first | go_end0 | refine bodyPost_ret (results_none rfl _ _ _) rfl ?_
            exact ⟨rfl, by rw [Hr.out]; exact hG9, by (repeat (first | (with_reducible exact n_refl) | (with_reducible assumption) | (with_reducible refine n_alloc ?_) | (with_reducible refine n_drew ?_) | (with_reducible refine n_drewN ?_) | (with_reducible refine n_set ?_ (by first | (simp; done) | (dsimp only; omega))) | (with_reducible refine n_trans ?_ (by assumption)) | (with_reducible refine n_call ?_ (by assumption))))⟩
      · have hr : behind m ⟨p0, p1, en, ha, wi, ov, ex, w0, w1⟩ ⟨te, po, pw⟩ = ⟨a0, a1, a2, a3, a4, a5, false, a7, a8⟩ := by rw [hkey.out, if_neg (fun h => q h.1), if_neg (fun h => q h.1), decide_eq_false q]
        have Hr := Lib.hid hr
        clear hr hkey
        have hd : decide (m.ends ≤ a2) = false := decide_eq_false q
        go_wp2
        go_region
        all_goals
          go_wp2_with fail
          go_quiet (fail)
          go_wp2_with fail
          go_quiet (fail)
          go_wp2
          first | go_end0 | refine bodyPost_ret (results_none rfl _ _ _) rfl ?_
          exact ⟨rfl, by rw [Hr.out]; constructor <;> simp [go_sem, *], by (repeat (first | (with_reducible exact n_refl) | (with_reducible assumption) | (with_reducible refine n_alloc ?_) | (with_reducible refine n_drew ?_) | (with_reducible refine n_drewN ?_) | (with_reducible refine n_set ?_ (by first | (simp; done) | (dsimp only; omega))) | (with_reducible refine n_trans ?_ (by assumption)) | (with_reducible refine n_call ?_ (by assumption))))⟩
end Go.Proofs.YtenofigclkbbiaaDoor
