/-
  The order of the stones in the house: the program's nearest.
-/
import Derived.Test.YtbeapddadogfaaaGreatDoorL
import Derived.Test.YtbeapddadogfaaaGreatDoorK
import Derived.Maps.OwnIn
import Derived.Maps.AppendAt
set_option linter.unusedVariables false
set_option linter.unusedSimpArgs false
namespace Go.Proofs.YtbeapddadogfaaaGreatDoor
open Go.RowKit Go.Shelf
open Sheet
attribute [local go_sem] Oper.semAt_some

theorem own_below {B : Nat} {e : TypeId} {k : Nat} {v : Value} {n : Nat} {xs : List Value} {w w' : World} (h : w.ownsRow B e k v n xs) (hb : Below w.heap.size w w') : w'.ownsRow B e k v n xs := by
  refine h.kept (row := none) ⟨hb.os, hb.tape, hb.output, hb.size, fun i hi _ => hb.block i hi⟩ ?_
  cases v.ownBlock with
  | none => exact .inl rfl
  | some g => exact .inr (by simp)
/-- What the call's own row's growing leaves: the blocks below the row's base. -/
theorem own_grow {w w' : World} {B : Nat} {e : TypeId} {k : Nat} {v : Value} {n : Nat} {xs : List Value} (h : w.ownsRow B e k v n xs) (hg : w.grownBy w' v.ownBlock) (hB : B ≤ w.heap.size) : Below B w w' :=
  ⟨hg.os, hg.tape, hg.output, hg.size, fun i hi => hg.block i (Nat.lt_of_lt_of_le hi hB) (fun e' => by have := h.lt _ e'.symm; omega)⟩
theorem own_mono {B B' : Nat} {e : TypeId} {k : Nat} {v : Value} {n : Nat} {xs : List Value} {w : World} (h : w.ownsRow B e k v n xs) (hB : B' ≤ B) : w.ownsRow B' e k v n xs := by
  refine ⟨h.1, ?_⟩
  rcases h.2 with h' | ⟨g, cap, cur, h1, h2, h3⟩
  · exact .inl h'
  · exact .inr ⟨g, cap, cur, h1, Nat.le_trans hB h2, h3⟩
theorem b_below {w W W' : World} {B : Nat} (h : Below w.heap.size w W) (k : Below B W W') (hB : w.heap.size ≤ B) : Below w.heap.size w W' :=
  h.trans ⟨k.os, k.tape, k.output, k.size, fun i hi => k.block i (Nat.lt_of_lt_of_le hi hB)⟩
theorem kf_set {B : Nat} {W W' : World} {a : Addr} {v : Value} (h : KeepsFrom B W W') : KeepsFrom B W (W'.setCell a v) := h.trans ((KeepsOthers.setCell _ _ _).from _)
theorem kf_drew {B : Nat} {W W' : World} (h : KeepsFrom B W W') : KeepsFrom B W W'.drew := ⟨h.size, h.same⟩
theorem kf_alloc {B : Nat} {W W' : World} {o : Obj} (h : KeepsFrom B W W') : KeepsFrom B W (W'.alloc o) := h.trans ((KeepsOthers.alloc _ _).from _)
theorem b_put {w W : World} {D : Nat} {o : Obj} (h : Below w.heap.size w W) (hD : w.heap.size ≤ D) : Below w.heap.size w (W.putObj D o) := b_grown h (grownBy_putObj' W D o) hD
theorem own_at {w : World} {B : Nat} {e : TypeId} {k : Nat} {v : Value} {n : Nat} {xs : List Value} (h : w.ownsRow B e k v n xs) {g : Nat} (hg : v.ownBlock = some g) : ∃ cur, w.heap[g]? = some (.cells cur e (0, 0)) := by
  rcases h.2 with ⟨rfl, _⟩ | ⟨g', cap, cur, rfl, _, h3, _⟩
  · cases hg
  · cases hg
    exact ⟨_, h3⟩
theorem own_form {w : World} {B : Nat} {e : TypeId} {k : Nat} {v : Value} {n : Nat} {xs : List Value} (h : w.ownsRow B e k v n xs) (hn : 0 < n) : ∃ g cap, v = .slice (some ⟨g, 0, none⟩) n cap := by
  rcases h.2 with ⟨_, h'⟩ | ⟨g, cap, cur, h1, _⟩
  · omega
  · exact ⟨g, cap, h1⟩
theorem kf_grown {B : Nat} {w W W' : World} {base : Nat} {e : TypeId} {size : Nat} {v : Value} {n : Nat} {xs : List Value} (h : KeepsFrom B w W) (hown : W.ownsRow base e size v n xs) (hg : W.grownBy W' v.ownBlock) : KeepsFrom B w W' := by
  refine h.trans ⟨hg.size, fun i o _ h1 h2 => (hg.block i (Array.getElem?_eq_some_iff.1 h1).1 (fun e' => ?_)).trans h1⟩
  obtain ⟨cur, hc⟩ := own_at hown e'.symm
  rw [hc] at h1
  cases h1
  cases h2
theorem alloc_at' {w : World} {o : Obj} {k : Nat} (hk : k = w.heap.size) : (w.alloc o).heap[k]? = some o := by subst hk; exact alloc_at w o
/-- The box of a slice of integers. -/
def BoxAt (w : World) (g : Nat) (v : Value) : Prop := w.heap[g]? = some (.cells #[v] 57 (0, 0))
theorem BoxAt.cell {w : World} {g : Nat} {v : Value} (h : BoxAt w g v) : w.cell? ⟨g, 0, none⟩ = some v ∧ w.frozen? ⟨g, 0, none⟩ = false ∧ g < w.heap.size := by
  unfold BoxAt at h
  exact ⟨by simp [World.cell?, h], by simp [World.frozen?, h], (Array.getElem?_eq_some_iff.1 h).1⟩
theorem box_set {w : World} {g : Nat} {v : Value} (h : BoxAt w g v) (u : Value) : BoxAt (w.setCell ⟨g, 0, none⟩ u) g u := by
  unfold BoxAt at h ⊢
  simp [World.setCell, h, Array.getElem?_modify]
theorem own_set {w : World} {B : Nat} {e : TypeId} {k : Nat} {v : Value} {n : Nat} {xs : List Value} (h : w.ownsRow B e k v n xs) {a : Addr} {u : Value} (ha : a.block < B) : (w.setCell a u).ownsRow B e k v n xs := by
  refine ⟨h.1, ?_⟩
  rcases h.2 with h' | ⟨g, cap, cur, h1, h2, h3, h4⟩
  · exact .inl h'
  · exact .inr ⟨g, cap, cur, h1, h2, (Below.heap_setCell _ _ _ _ (by omega)).trans h3, h4⟩
theorem info_int : (Tryz.prog.info? 3).map (fun i => (i.zero, i.size, i.bytes)) = some (some (.int .i64 0), 1, 8) := by kernel_rfl
/-- A slice of indices of the call's own; nil where there is none. -/
def IntsAt (lo : Nat) (w : World) (v : Value) (xs : List Nat) : Prop :=
  (xs = [] ∧ v = .slice none 0 0) ∨ ∃ g cap, v = .slice (some ⟨g, 0, none⟩) xs.length cap ∧ lo ≤ g ∧ g < w.heap.size ∧ xs.length ≤ cap ∧ RowL w g xs
theorem row_of_own {w : World} {B g n cap : Nat} {xs : List Nat} (h : w.ownsRow B 3 1 (.slice (some ⟨g, 0, none⟩) n cap) n (xs.map (fun x : Nat => Value.int .i64 (x : Int)))) : RowL w g xs ∧ B ≤ g ∧ g < w.heap.size ∧ n ≤ cap := by
  rcases h.2 with ⟨e, _⟩ | ⟨g', cap', cur, e, h1, h2, h3, h4, h5, h6⟩
  · cases e
  · cases e
    refine ⟨fun p x hp => ?_, h1, (Array.getElem?_eq_some_iff.1 h2).1, h3⟩
    have hx : (xs.map (fun x : Nat => Value.int .i64 (x : Int)))[p]? = some (.int .i64 x) := by rw [List.getElem?_map, hp]; rfl
    rw [← h6] at hx
    have hc : cur[p]? = some (.int .i64 x) := by
      have hlt := (List.getElem?_eq_some_iff.1 hx).1
      simp at hlt
      rw [List.getElem?_take] at hx
      split at hx
      · simpa using hx
      · cases hx
    exact ⟨by simp [World.cell?, h2, hc], by simp [World.frozen?, h2]⟩
theorem hz_fst : ∀ (l : List Sn) (i : Nat), (hz i l).map (·.1) = idxFrom i l
  | [], _ => rfl
  | s :: r, i => by
    unfold hz idxFrom
    split
    · rw [List.map_cons, hz_fst r (i + 1)]
    · exact hz_fst r (i + 1)
theorem idx_len : ∀ (l : List Sn) (i : Nat), (idxFrom i l).length ≤ l.length
  | [], _ => by simp [idxFrom]
  | s :: r, i => by
    unfold idxFrom
    have := idx_len r (i + 1)
    split <;> simp <;> omega
theorem near_ins (l : List Sn) : (ins (keyAt l) (idxFrom 0 l) (idxFrom 0 l).length).reverse = near l := by
  unfold ins near
  rw [List.take_length]
def NearPost (l : List Sn) (w : World) (e : Ending) (w' : World) : Prop := ∃ v, e = .returned v ∧ IntsAt w.heap.size w' v (near l) ∧ Below w.heap.size w w'
set_option maxHeartbeats 4000000 in
set_option maxRecDepth 100000 in
theorem nearest_in (A : Option Addr) (cap : Nat) (l : List Sn) (w : World) (hS : Stones w A l) (hv : ∀ s ∈ l, vplace s.x s.y = true) (hc : Calm l) (h16 : l.length ≤ 16) :
    CallsIn Fence.wide 0 Tryz.prog 65 #[.slice A l.length cap] w (NearPost l w) := by
  obtain ⟨i0, hi, hz0, hz1, hz2⟩ := info_parts info_int
  have hidx := idx_len l 0
  rw [← hz_fst l 0, List.length_map] at hidx
  refine callsIn_of_wp_marks Tryz.func65 rfl trivial ?_ rfl
  simp only [Tryz.ntmps65, List.size_toArray, List.length_cons, List.length_nil, Nat.reduceAdd, Nat.reduceSub, Array.replicate_succ, Array.replicate_zero, List.push_toArray, List.append_toArray, List.nil_append, List.cons_append]
  gi_wp2_with (refine ⟨trivial, rfl, ?_⟩; gi_at_call 82; refine (callsIn_wide.2 (housed_any _ _ _ _)).mono ?_; rintro e w2 ⟨rfl, hbx, hsz2, hb2⟩)
  have hs2 := hb2.size
  have hB2 : Below w.heap.size w w2 := b_call (b_alloc (b_alloc (Below.refl _ _))) hb2
  have hXo : BoxAt w2 (w.heap.size + 1) (.slice none 0 0) := (hb2.block _ (by simp)).trans (alloc_at' (by simp))
  have hTo : w2.cell? ⟨w.heap.size, 0, none⟩ = some (.slice A l.length cap) := (hb2.cell (p := ⟨w.heap.size, 0, none⟩) (by simp; omega)).trans (by simp [go_sem])
  simp at hsz2 hbx hs2
  have hSC := hS.in_.below hB2 (Nat.le_refl _)
  have hg := housed1_gives A cap l (w.heap.size + 1 + 1) w.heap.size w2 hSC hv (by simpa using hbx) (by omega)
  refine range_law (gf := 98) (lb := #[.pointer (some ⟨w.heap.size + 1 + 1, 0, none⟩)]) rfl (enters_of Tryz.func98 (by kernel_rfl) rfl) hg
    (fun o ho => ho.elim) (fun h k => h.trans k) (fun W l' o o' hl _ _ => ?keepb) (Below.refl _ _) (fun _ => rfl)
    (fun pre W => ∃ v, BoxAt W (w.heap.size + 1) v ∧ W.ownsRow w2.heap.size 3 1 v pre.length (pre.map (fun x : Nat × Sn => Value.int .i64 (x.1 : Int))) ∧ Below w.heap.size w W ∧ w2.heap.size ≤ W.heap.size ∧ W.cell? ⟨w.heap.size, 0, none⟩ = some (.slice A l.length cap))
    ?abides
    ⟨_, hXo, World.ownsRow_nil _ _ _ _, hB2, Nat.le_refl _, hTo⟩
    (fun T x a' W => a' = { tmps := ((T.setIfInBounds 7 (.int .i64 x.1)).setIfInBounds 8 (sval x.2)).setIfInBounds 4 (.int .i64 x.1), defers := [] })
    (fun T x a' s W W' row hs hg hr => hs)
    ?assign ?body ?done
  case keepb => exact ⟨rfl, rfl, rfl, by simp, fun i hi => World.putObj_heap_other (by omega)⟩
  case abides =>
    rintro pre W W' row ⟨v, hX, hO, hB, hw3, hT⟩ hg hr
    refine ⟨v, (hg.block _ (by omega) (fun e => by have := (hr _ e.symm).1; omega)).trans hX, hO.kept hg ?_, hB.grown hg (by omega) (fun k e => by have := (hr k e).1; omega), Nat.le_trans hw3 hg.size, (World.cell?_of_block (hg.block w.heap.size (by omega) (fun e => by have := (hr _ e.symm).1; omega))).trans hT⟩
    cases hv' : v.ownBlock with
    | none => exact .inl rfl
    | some g =>
      refine .inr (fun e => ?_)
      obtain ⟨_, o, ho, hk⟩ := hr g e.symm
      obtain ⟨cur, hc'⟩ := own_at hO hv'
      rw [hc'] at ho
      cases ho
      rcases hk with h | h
      · cases h
      · exact h.elim
  case assign =>
    rintro lid pre x W K ⟨v, hX, hO, hB, hw3, hT⟩ hK
    simp only [encs]
    gi_wp2
    exact hK _ _ (KeepsFrom.refl _ _) (Below.refl _ _) ⟨v, hX, hO, hB, hw3, hT⟩ rfl
  case body =>
    rintro lid pre x a' W ⟨v, hX, hO, hB, hw3, hT⟩ rfl ⟨post, hpost⟩
    obtain ⟨b0, bf, bz⟩ := hX.cell
    have hlen : pre.length ≤ 16 := by rw [hpost] at hidx; simp at hidx; omega
    simp only [List.setIfInBounds_toArray, List.set_cons_zero, List.set_cons_succ]
    clear hpost hXo hg hSC hbx hTo
    gi_wp2_with (gi_at_builtin; refine wpListIn_append_own _ rfl _ _ 57 rfl w2.heap.size 3 i0 (.int .i64 0) 1 8 (by kernel_rfl) hi hz0 hz1 hz2 rfl (by decide) _ _ _ rfl (hO.alloc _) ⟨W.heap.size, 0, none⟩ 1 1 [.int .i64 (x.1 : Int)] rfl rfl ?c1 ?c2 ?c3 ?c4 ?c5 ?_)
    case c1 => exact cell_one_new _ _ _
    case c2 => intro u hu; simp at hu; subst hu; rfl
    case c3 => unfold maxLen; omega
    case c4 => omega
    case c5 => simp; omega
    intro v' W9 hO9 hg9 hnn
    obtain ⟨g9, cap9, rfl⟩ := own_form hO9 (by omega)
    have hb9 := own_grow (hO.alloc _) hg9 (by simp; omega)
    have hX9 : BoxAt W9 (w.heap.size + 1) v := (hb9.block _ (by omega)).trans ((alloc_old _ _ (by omega)).trans hX)
    have hT9 : W9.cell? ⟨w.heap.size, 0, none⟩ = some (.slice A l.length cap) := (hb9.cell (p := ⟨w.heap.size, 0, none⟩) (by simp only; omega)).trans ((Below.cell ((Below.refl _ W).alloc (Nat.le_refl _) _) (p := ⟨w.heap.size, 0, none⟩) (by simp only; omega)).trans hT)
    clear b0 bf bz hT
    obtain ⟨b0, bf, bz9⟩ := hX9.cell
    gi_wp2
    have hz9 := hb9.size
    simp at hz9
    refine ⟨kf_set (kf_grown (kf_alloc (KeepsFrom.refl _ _)) (hO.alloc _) hg9), (((Below.refl w.heap.size W).alloc (by omega) _).trans (hb9.mono (by omega))).setCell (p := ⟨w.heap.size + 1, 0, none⟩) (by simp) _, .slice (some ⟨g9, 0, none⟩) (pre.length + 1) cap9, ?_, ?_, ?_, ?_, ?_⟩
    · exact box_set hX9 _
    · rw [List.map_append, List.length_append, hsz2]
      exact own_set (a := ⟨w.heap.size + 1, 0, none⟩) hO9 (by simp only; omega)
    · exact (b_below (b_alloc hB) hb9 (by omega)).setCell (p := ⟨w.heap.size + 1, 0, none⟩) (by simp) _
    · simp [World.setCell]; omega
    · exact (World.cell?_setCell_other _ _ _ _ (by simp)).trans hT9
  case done =>
    rintro D W hD ⟨v, hX, hO, hB, hw3, hT⟩ hK
    obtain ⟨b0, bf, bz⟩ := hX.cell
    have hmap : (hz 0 l).map (fun x : Nat × Sn => Value.int .i64 (x.1 : Int)) = (idxFrom 0 l).map (fun x : Nat => Value.int .i64 (x : Int)) := by rw [← hz_fst l 0, List.map_map]; rfl
    have hll : (hz 0 l).length = (idxFrom 0 l).length := by rw [← hz_fst l 0, List.length_map]
    have hmf : ∀ (fn : Fn) (first cap : Array Value) (w : World), (Instr.makeFunc fn first cap).run Tryz.prog w = .ok (.func fn first cap) w := fun _ _ _ _ => rfl
    rw [hmap, hll] at hO
    clear hmap hll hXo hg hbx hTo
    have hidl : (idxFrom 0 l).length ≤ 16 := by have := idx_len l 0; omega
    rcases hO.2 with ⟨rfl, h0⟩ | ⟨g, cp, cur, rfl, hgl, hgc, hcp, hcm, hcs, hct⟩
    · have hnr : near l = [] := by
        have := (near_perm l).length_eq
        rw [h0] at this
        exact List.length_eq_zero_iff.1 this
      gi_wp2_with fail
      refine ⟨trivial, rfl, ?_⟩
      refine (callsIn_wide.2 (stable_nil _ _)).mono ?_
      rintro e W3 ⟨rfl, rfl⟩
      gi_wp2
      refine leave_mark (D := D) (v := .slice none 0 0) hK ?_ ?_
      · simp [results, Tryz.results65, go_sem, *]
      · exact ⟨_, rfl, .inl ⟨hnr, rfl⟩, b_put hB (by omega)⟩
    · obtain ⟨hrow, _, hgl2, _⟩ := row_of_own hO
      have hgD : g ≠ D := fun e => by subst e; rw [hK] at hgc; cases hgc
      have hins := insertion_any (keyAt l) l.length w.heap.size g cp (idxFrom 0 l) W (fun x hx => by have := ((mem_idxFrom l 0 x).1 hx).2.1; omega) (by omega) hrow hgl2
        (fun i k W' hi hk hgr => nearest1_any A cap w.heap.size l i k W' (hS.below (b_grown hB hgr (by omega))) hc ((World.cell?_of_block (hgr.block w.heap.size (by omega) (fun e => by cases e; omega))).trans hT) hi hk)
      have hsort := Lib.hid (sortStable_any (keyAt l) w.heap.size g cp (idxFrom 0 l) W (by omega) hins)
      have hnl : (near l).length = (idxFrom 0 l).length := (near_perm l).length_eq
      have hnlH := Lib.hid hnl
      clear hins hnl
      gi_wp2_with fail
      refine ⟨trivial, rfl, ?_⟩
      refine (callsIn_wide.2 hsort.out).mono ?_
      rintro e W3 ⟨rfl, hrow3, hgr3⟩
      have hX3 : BoxAt W3 (w.heap.size + 1) (.slice (some ⟨g, 0, none⟩) (idxFrom 0 l).length cp) := (hgr3.block _ (by omega) (fun e => by cases e; omega)).trans hX
      have hK3 : W3.heap[D]? = some (.deferred (some [])) := (hgr3.block D (Array.getElem?_eq_some_iff.1 hK).1 (fun e => by cases e; exact hgD rfl)).trans hK
      have hB3 : Below w.heap.size w W3 := b_grown hB hgr3 (by omega)
      have hg3 := hgr3.size
      clear b0 bf bz hsort hgc hgr3
      obtain ⟨b0, bf, bz⟩ := hX3.cell
      gi_wp2
      refine leave_mark (D := D) (v := .slice (some ⟨g, 0, none⟩) (idxFrom 0 l).length cp) hK3 ?_ ?_
      · simp [results, Tryz.results65, go_sem, *]
      · refine ⟨_, rfl, .inr ⟨g, cp, by rw [hnlH.out], by omega, by simp; omega, by rw [hnlH.out]; exact hcp, ?_⟩, b_put hB3 (by omega)⟩
        rw [← near_ins]
        exact RowL.keep hrow3 (World.putObj_heap_other hgD)
theorem nearest_any (A : Option Addr) (cap : Nat) (l : List Sn) (w : World) (hS : Stones w A l) (h : check l = true) :
    Calls Tryz.prog 65 #[.slice A l.length cap] w (NearPost l w) := by
  refine callsIn_wide.1 (nearest_in A cap l w hS ?_ (calm_of h) ?_)
  · unfold check at h
    simp only [Bool.and_eq_true, decide_eq_true_eq] at h
    intro s hs
    have : ∀ (l pre : List Sn), soundFrom pre l = true → ∀ s ∈ l, s.ok = true := by
      intro l
      induction l with
      | nil => intro _ _ s hs; cases hs
      | cons a r ih =>
        intro pre h s hs
        simp only [soundFrom, Bool.and_eq_true] at h
        rcases List.mem_cons.1 hs with rfl | hs
        · exact h.1.1
        · exact ih _ h.2 s hs
    exact (ok_parts (this l [] h.1.2 s hs)).2.2.1
  · unfold check at h
    simp only [Bool.and_eq_true, decide_eq_true_eq] at h
    exact h.1.1
end Go.Proofs.YtbeapddadogfaaaGreatDoor
