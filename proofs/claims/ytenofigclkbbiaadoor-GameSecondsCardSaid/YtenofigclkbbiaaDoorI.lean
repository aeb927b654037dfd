/-
  Who has the hammer: the program.
-/
import Derived.Test.YtenofigclkbbiaaDoorH
import Derived.Maps.OwnIn
set_option linter.unusedVariables false
set_option linter.unusedSimpArgs false
namespace Go.Proofs.YtenofigclkbbiaaDoor
open Go.RowKit
open Game
attribute [local go_sem] Oper.semAt_some

/-- What stands of the states that came: who has the hammer while the game is not over. -/
def hams (l : List (Nat × St)) : List Int := (l.filter (fun x => !x.2.over)).map (fun x => x.2.hammer)
theorem hams_snoc (l : List (Nat × St)) (x : Nat × St) : hams (l ++ [x]) = hams l ++ (if x.2.over = true then [] else [x.2.hammer]) := by
  unfold hams
  rw [List.filter_append, List.map_append]
  cases h : x.2.over <;> simp [h]
theorem hams_le (l : List (Nat × St)) : (hams l).length ≤ l.length := by
  unfold hams
  rw [List.length_map]
  exact List.length_filter_le _ _
theorem states_len (m : Mt) (s : St) (k : Nat) (l : List Ln) : (statesFrom m s k l).length ≤ l.length + 1 := by
  induction l generalizing s k with
  | nil => simp [statesFrom]
  | cons x r ih =>
    simp only [statesFrom]
    split
    · simp only [List.length_cons]; have := ih (behind m s x) (k + 1); omega
    · simp
theorem hams_states {m : Mt} {s t : St} {k : Nat} {l : List Ln} (h : walk m s k l = (t, none)) :
    hams (statesFrom m s k l) = (List.range l.length).map (fun j => (fold m s (l.take j)).hammer) ++ (if (fold m s l).over = true then [] else [(fold m s l).hammer]) := by
  induction l generalizing s k with
  | nil => by_cases ho : s.over = true <;> simp [statesFrom, hams, fold, ho]
  | cons x r ih =>
    by_cases hf : fits m s x = true
    · rw [walk_step hf] at h
      have ho : s.over = false := by simp [fits] at hf; exact hf.1
      rw [show statesFrom m s k (x :: r) = (k, s) :: statesFrom m (behind m s x) (k + 1) r by simp [statesFrom, hf]]
      rw [show hams ((k, s) :: statesFrom m (behind m s x) (k + 1) r) = s.hammer :: hams (statesFrom m (behind m s x) (k + 1) r) by simp [hams, ho]]
      rw [ih h, List.length_cons, List.range_succ_eq_map, List.map_cons, List.map_map, List.cons_append]
      congr 1
    · rw [walk_stop (Bool.eq_false_iff.2 hf)] at h
      cases h
theorem own_at {w : World} {B : Nat} {e : TypeId} {k : Nat} {v : Value} {n : Nat} {xs : List Value} (h : w.ownsRow B e k v n xs) {g : Nat} (hg : v.ownBlock = some g) : ∃ cur, w.heap[g]? = some (.cells cur e (0, 0)) := by
  rcases h.2 with ⟨rfl, _⟩ | ⟨g', cap, cur, rfl, _, h3, _⟩
  · cases hg
  · cases hg
    exact ⟨_, h3⟩
theorem own_form {w : World} {B : Nat} {e : TypeId} {k : Nat} {v : Value} {n : Nat} {xs : List Value} (h : w.ownsRow B e k v n xs) (hn : 0 < n) : ∃ g cap, v = .slice (some ⟨g, 0, none⟩) n cap := by
  rcases h.2 with ⟨_, h'⟩ | ⟨g, cap, cur, h1, _⟩
  · omega
  · exact ⟨g, cap, h1⟩
theorem kf_grown {B : Nat} {w W W' : World} {base : Nat} {e : TypeId} {size : Nat} {v : Value} {n : Nat} {xs : List Value} (h : KeepsFrom B w W) (hown : W.ownsRow base e size v n xs) (hg : W.grownBy W' v.ownBlock) : KeepsFrom B w W' := by
  refine h.trans ⟨hg.size, fun i o _ h1 h2 => (hg.block i (Array.getElem?_eq_some_iff.1 h1).1 (fun e' => ?_)).trans h1⟩
  obtain ⟨cur, hc⟩ := own_at hown e'.symm
  rw [hc] at h1
  cases h1
  cases h2
theorem kp_grown {lo hi : Nat} {w W W' : World} {base : Nat} {size : Nat} {v : Value} {n : Nat} {xs : List Value} (h : Kp lo hi w W) (hown : W.ownsRow base 3 size v n xs) (hb : hi ≤ base) (hlo : lo ≤ hi) (hg : W.grownBy W' v.ownBlock) : Kp lo hi w W' := by
  refine h.trans ⟨hg.size, fun i o h1 _ h3 => (hg.block i (Array.getElem?_eq_some_iff.1 h1).1 (fun e' => ?_)).trans h1⟩
  obtain ⟨cur, hc⟩ := own_at hown e'.symm
  have := hown.lt _ e'.symm
  rcases h3 with h3 | ⟨_, h3⟩
  · omega
  · rw [hc] at h1
    exact h3 ⟨cur, (0, 0), (Option.some.inj h1).symm⟩
theorem kp_alloc {lo hi : Nat} {W W' : World} {o : Obj} (h : Kp lo hi W W') : Kp lo hi W (W'.alloc o) := h.trans ⟨by simp, fun i o h1 h2 h3 => (alloc_old _ _ (Array.getElem?_eq_some_iff.1 h1).1).trans h1⟩
theorem kp_refl {lo hi : Nat} {W : World} : Kp lo hi W W := ⟨Nat.le_refl _, fun _ _ h _ _ => h⟩
theorem alloc_at' {w : World} {o : Obj} {k : Nat} (hk : k = w.heap.size) : (w.alloc o).heap[k]? = some o := by subst hk; exact alloc_at w o
/-- The box of a slice. -/
def BoxAt (w : World) (g : Nat) (v : Value) : Prop := w.heap[g]? = some (.cells #[v] 33 (0, 0))
theorem BoxAt.cell {w : World} {g : Nat} {v : Value} (h : BoxAt w g v) : w.cell? ⟨g, 0, none⟩ = some v ∧ w.frozen? ⟨g, 0, none⟩ = false ∧ g < w.heap.size := by
  unfold BoxAt at h
  exact ⟨by simp [World.cell?, h], by simp [World.frozen?, h], (Array.getElem?_eq_some_iff.1 h).1⟩
theorem box_set {w : World} {g : Nat} {v : Value} (h : BoxAt w g v) (u : Value) : BoxAt (w.setCell ⟨g, 0, none⟩ u) g u := by
  unfold BoxAt at h ⊢
  simp [World.setCell, h, Array.getElem?_modify]
theorem own_set {w : World} {B : Nat} {e : TypeId} {k : Nat} {v : Value} {n : Nat} {xs : List Value} (h : w.ownsRow B e k v n xs) {a : Addr} {u : Value} (ha : a.block < B) : (w.setCell a u).ownsRow B e k v n xs := by
  refine ⟨h.1, ?_⟩
  rcases h.2 with h' | ⟨g, cap, cur, h1, h2, h3, h4⟩
  · exact .inl h'
  · exact .inr ⟨g, cap, cur, h1, h2, (Below.heap_setCell _ _ _ _ (by omega)).trans h3, h4⟩
set_option maxHeartbeats 4000000 in
set_option maxRecDepth 100000 in
theorem pHammers_1 (m : Mt) (first : Int) (A : Option Addr) (cap : Nat) (card : List Ln) (w : World) (hc : Card w A card) (hcap : card.length ≤ cap) (hok : (replay m first card (-1)).2.2 = 0) :
    CallsIn Fence.wide 0 Tryd.prog 13 #[mval m, .int .i64 first, .slice A card.length cap] w (HamsPost w (hamsOf m first card) 0) := by
  obtain ⟨h1, h2, h4, hw, hre⟩ := replay_ok hok
  have hrep := fun (W : World) (hW : Below w.heap.size w W) => pReplay_any m first A cap card (-1) W (hc.in_.below hW (Nat.le_refl _) |>.to hW.size)
  have hh := Lib.hid (show hamsOf m first card = hams (statesFrom m (St.begun first) 0 card) by simp [hamsOf, hok, hre, hams_states hw])
  rw [hre] at hrep
  obtain ⟨i0, hi, hz0, hz1, hz2⟩ := info_parts Tryd.info3
  have hcB := hc.in_
  clear hok hre hw
  refine callsIn_of_wp_marks Tryd.func13 rfl trivial ?_ rfl
  simp only [Tryd.ntmps13, List.size_toArray, List.length_cons, List.length_nil, Nat.reduceAdd, Nat.reduceSub, Array.replicate_succ, Array.replicate_zero, List.push_toArray, List.append_toArray, List.nil_append, List.cons_append]
  gi_wp2_with (refine ⟨trivial, rfl, ?_⟩; first
    | (gi_at_call 11; refine (callsIn_wide.2 (hrep _ (by (repeat (first | (with_reducible exact Below.refl _ _) | (with_reducible assumption) | (with_reducible refine b_alloc ?_) | (with_reducible refine b_drew ?_) | (with_reducible refine b_drewN ?_) | (with_reducible refine b_set ?_ (by first | (simp; done) | (dsimp only; omega))) | (with_reducible refine b_call ?_ (by assumption))))))).mono ?_; rintro e w1 ⟨rfl, hb1⟩; have hM : MtAt w1 w.heap.size m := (hb1.block _ (by simp)).trans (alloc_at w _); obtain ⟨q0, q1, q2, q3, q4, qf, qz⟩ := hM.cells)
    | (gi_at_call 40; refine (callsIn_wide.2 (states_any _ _ _ _ _ _)).mono ?_; rintro e w2 ⟨rfl, hcap2, hsz2, hb2⟩))
  have hs1 := hb1.size
  have hB1 := b_call (b_alloc (Below.refl w.heap.size w)) hb1
  clear hrep q0 q1 q2 q3 q4 qf
  have hB2 := b_call (b_alloc (b_alloc hB1)) hb2
  have hcC := hcB.below hB2 (Nat.le_refl _)
  have hXo : BoxAt w2 (w1.heap.size + 1) (.slice none 0 0) := (hb2.block _ (by simp)).trans (alloc_at' (by simp))
  simp at hsz2 hcap2 hs1
  have hg := states1_gives m first A cap card (w1.heap.size + 1 + 1) w.heap.size (w1.heap.size + 1 + 1) w2 hcC hcap2 (by omega) (by omega) h1 h2 h4
  refine range_law (gf := 60) (lb := #[.pointer (some ⟨w1.heap.size + 1 + 1, 0, none⟩), .pointer (some ⟨w1.heap.size + 1 + 1 + 1, 0, none⟩), .pointer (some ⟨w1.heap.size + 1 + 1 + 1 + 1, 0, none⟩)]) rfl (enters_of Tryd.func60 (by kernel_rfl) rfl) hg
    (fun o ho => by obtain ⟨cs, f, rfl⟩ := ho; rfl) Kp.trans (fun W l o o' _ h ho => Kp.putObj W l o o' h ho) (Below.refl _ _) (fun _ => rfl)
    (fun pre W => ∃ v, BoxAt W (w1.heap.size + 1) v ∧ W.ownsRow w2.heap.size 3 1 v (hams pre).length ((hams pre).map (Value.int .i64)) ∧ Below w.heap.size w W ∧ w2.heap.size ≤ W.heap.size)
    ?abides
    ⟨_, hXo, World.ownsRow_nil _ _ _ _, hB2, Nat.le_refl _⟩
    (fun T x a' W => ∃ X, StAt W X x.2 ∧ w2.heap.size ≤ X ∧ a' = { tmps := ((T.setIfInBounds 29 (.int .i64 x.1)).setIfInBounds 30 (sval x.2)).setIfInBounds 13 (.pointer (some ⟨X, 0, none⟩)), defers := [] })
    (fun T x a' s W W' row hs hg hr => by
      obtain ⟨X, hX, hX2, e⟩ := hs
      exact ⟨X, hX.kept (hg.block X (Array.getElem?_eq_some_iff.1 hX).1 (fun e => by obtain ⟨_, o, ho, hn⟩ := hr X e.symm; rw [hX] at ho; cases ho; cases hn)), hX2, e⟩)
    ?assign ?body ?done
  case abides =>
    rintro pre W W' row ⟨v, hX, hO, hB, hz⟩ hg hr
    refine ⟨v, (hg.block _ (by omega) (fun e => by have := (hr _ e.symm).1; omega)).trans hX, hO.kept hg ?_, hB.grown hg (by omega) (fun k e => by have := (hr k e).1; omega), Nat.le_trans hz hg.size⟩
    cases hv : v.ownBlock with
    | none => exact .inl rfl
    | some g =>
      refine .inr (fun e => ?_)
      obtain ⟨_, o, ho, hk⟩ := hr g e.symm
      obtain ⟨cur, hc⟩ := own_at hO hv
      rw [hc] at ho
      cases ho
      rcases hk with h | ⟨_, _, h⟩
      · cases h
      · simp at h
  case assign =>
    rintro l pre x W K ⟨v, hX, hO, hB, hz⟩ hK
    simp only [encs]
    gi_wp2
    exact hK _ _ ((KeepsOthers.alloc _ _).from _) (kp_alloc kp_refl) ⟨v, (alloc_old _ _ (by omega)).trans hX, hO.alloc _, b_alloc hB, by simp; omega⟩ ⟨W.heap.size, alloc_at _ _, hz, rfl⟩
  case body =>
    rintro l pre x a' W ⟨v, hX, hO, hB, hz⟩ ⟨X, hS, hX2, rfl⟩ ⟨post, hpost⟩
    obtain ⟨b0, bf, bz⟩ := hX.cell
    obtain ⟨s0, s1, s2, s3, s4, s5, s6, s7, s8, sf, sz⟩ := hS.cells
    have hlen : (hams pre).length ≤ 41 := by
      have e1 := hams_le pre
      have e2 := states_len m (St.begun first) 0 card
      rw [hpost] at e2
      simp at e2
      omega
    simp only [List.setIfInBounds_toArray, List.set_cons_zero, List.set_cons_succ]
    have hsn := hams_snoc pre x
    by_cases ho : x.2.over = true
    · rw [if_pos ho, List.append_nil] at hsn
      rw [← hsn] at hO
      clear hsn hlen
      rw [ho] at s5
      gi_wp2
      exact ⟨KeepsFrom.refl _ _, kp_refl, v, hX, hO, hB, hz⟩
    · rw [if_neg ho] at hsn
      have hsn' := Lib.hid hsn
      clear hsn
      rw [Bool.not_eq_true] at ho
      rw [ho] at s5
      clear hpost hXo hg hcC hcap2 hh
      gi_wp2_with (gi_at_builtin; refine wpListIn_append_own _ rfl _ _ 33 rfl w2.heap.size 3 i0 (.int .i64 0) 1 8 (by kernel_rfl) hi hz0 hz1 hz2 rfl (by decide) _ _ _ rfl (hO.alloc _) ⟨W.heap.size, 0, none⟩ 1 1 [.int .i64 x.2.hammer] rfl rfl ?c1 ?c2 ?c3 ?c4 ?c5 ?_)
      case c1 => exact cell_one_new _ _ _
      case c2 => intro u hu; simp at hu; subst hu; rfl
      case c3 => unfold maxLen; omega
      case c4 => omega
      case c5 => simp; omega
      intro v' W9 hO9 hg9 hnn
      obtain ⟨g9, cap9, rfl⟩ := own_form hO9 (by omega)
      have hb9 := own_grow (hO.alloc _) hg9 (by simp; omega)
      have hX9 : BoxAt W9 (w1.heap.size + 1) v := (hb9.block _ (by omega)).trans ((alloc_old _ _ (by omega)).trans hX)
      clear b0 bf bz s0 s1 s2 s3 s4 s5 s6 s7 s8 sf
      obtain ⟨b0, bf, bz9⟩ := hX9.cell
      gi_wp2
      have hz9 := hb9.size
      simp at hz9
      refine ⟨kf_set (kf_grown (kf_alloc (KeepsFrom.refl _ _)) (hO.alloc _) hg9), kp_set (kp_grown (kp_alloc kp_refl) (hO.alloc _) (by omega) (by omega) hg9) (by simp; omega) (by simp), .slice (some ⟨g9, 0, none⟩) ((hams pre).length + 1) cap9, ?_, ?_, ?_, ?_⟩
      · exact box_set hX9 _
      · rw [hsn'.out, List.map_append, List.length_append, hsz2]
        exact own_set (a := ⟨w1.heap.size + 1, 0, none⟩) hO9 (by simp only; omega)
      · exact b_set (b_below (b_alloc hB) hb9 (by omega)) (by simp; omega)
      · simp [World.setCell]; omega
  case done =>
    rintro D W hD ⟨v, hX, hO, hB, hz⟩ hK
    rw [← hh.out] at hO
    obtain ⟨b0, bf, bz⟩ := hX.cell
    gi_wp2
    refine leave_mark (D := D) (v := .tuple #[v, .int .i64 0]) (KeepsFrom.same (B := w2.heap.size) (W := W) ?_ D _ hD hK rfl) ?_ ?_
    · repeat (first | (with_reducible refine kf_set ?_) | (with_reducible refine kf_drew ?_) | (with_reducible refine kf_alloc ?_) | exact KeepsFrom.refl _ _)
    · simp [results, Tryd.results13, go_sem, *]
    · refine ⟨v, rfl, ?_, b_put (by (repeat (first | (with_reducible exact Below.refl _ _) | (with_reducible assumption) | (with_reducible refine b_alloc ?_) | (with_reducible refine b_drew ?_) | (with_reducible refine b_drewN ?_) | (with_reducible refine b_set ?_ (by first | (simp; done) | (dsimp only; omega))) | (with_reducible refine b_call ?_ (by assumption))))) (by omega)⟩
      refine own_mono (B := w2.heap.size) ?_ (by omega)
      refine hO.kept (row := some D) (grownBy_putObj' W D _) ?_
      cases hv : v.ownBlock with
      | none => exact .inl rfl
      | some g =>
        refine .inr (fun e => ?_)
        obtain ⟨cur, hc⟩ := own_at hO hv
        cases e
        rw [hK] at hc
        cases hc
set_option maxHeartbeats 4000000 in
set_option maxRecDepth 100000 in
theorem pHammers_2 (m : Mt) (first : Int) (A : Option Addr) (cap : Nat) (card : List Ln) (w : World) (hc : Card w A card) (hok : (replay m first card (-1)).2.2 ≠ 0) :
    Calls Tryd.prog 13 #[mval m, .int .i64 first, .slice A card.length cap] w (HamsPost w (hamsOf m first card) (replay m first card (-1)).2.2) := by
  have hrep := fun (W : World) (hW : Below w.heap.size w W) => pReplay_any m first A cap card (-1) W (hc.in_.below hW (Nat.le_refl _) |>.to hW.size)
  have hne : ((replay m first card (-1)).2.2 != 0) = true := by simpa using hok
  have hh := Lib.hid (show hamsOf m first card = [] by simp [hamsOf, hok])
  clear hok
  go_enter Tryd.func13, Tryd.ntmps13
  go_wp2_with (go_at_call 11; refine (hrep _ (by (repeat (first | (with_reducible exact Below.refl _ _) | (with_reducible assumption) | (with_reducible refine b_alloc ?_) | (with_reducible refine b_drew ?_) | (with_reducible refine b_drewN ?_) | (with_reducible refine b_set ?_ (by first | (simp; done) | (dsimp only; omega))) | (with_reducible refine b_call ?_ (by assumption)))))).mono ?_; rintro e w1 ⟨rfl, hb1⟩)
  go_ret2
  exact ⟨_, rfl, by rw [hh.out]; exact World.ownsRow_nil _ _ _ _, by (repeat (first | (with_reducible exact Below.refl _ _) | (with_reducible assumption) | (with_reducible refine b_alloc ?_) | (with_reducible refine b_drew ?_) | (with_reducible refine b_drewN ?_) | (with_reducible refine b_set ?_ (by first | (simp; done) | (dsimp only; omega))) | (with_reducible refine b_call ?_ (by assumption))))⟩
theorem pHammers_any (m : Mt) (first : Int) (A : Option Addr) (cap : Nat) (card : List Ln) (w : World) (hc : Card w A card) (hcap : card.length ≤ cap) :
    Calls Tryd.prog 13 #[mval m, .int .i64 first, .slice A card.length cap] w (HamsPost w (hamsOf m first card) (replay m first card (-1)).2.2) := by
  by_cases hok : (replay m first card (-1)).2.2 = 0
  · rw [hok]
    exact callsIn_wide.1 (pHammers_1 m first A cap card w hc hcap hok)
  · exact pHammers_2 m first A cap card w hc hok
end Go.Proofs.YtenofigclkbbiaaDoor
