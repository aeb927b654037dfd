/-
  Parse of the program.
-/
import Derived.Test.YtbeapddadogfaaaGreatDoorZ
import Derived.Test.YtbeapddadogfaaaGreatDoorRun
import Derived.Test.YtbeapddadogfaaaGreatDoorS
import Derived.Test.YtbeapddadogfaaaGreatDoorQ
import Derived.Test.YtbeapddadogfaaaGreatDoorM
import Derived.Test.YtbeapddadogfaaaGreatDoorH
set_option linter.unusedVariables false
set_option linter.unusedSimpArgs false
namespace Go.Proofs.YtbeapddadogfaaaGreatDoor
open Go.RowKit Sheet
attribute [local go_sem] Oper.semAt_some

def cs4 (s : Sn) : List Value := [.int .i64 s.team, .int .i64 s.n, .int .i64 s.x, .int .i64 s.y]
def flat (l : List Sn) : List Value := l.flatMap cs4
theorem flat_app (l : List Sn) (s : Sn) : flat (l ++ [s]) = flat l ++ cs4 s := by simp [flat]
/-- The three boxes of the results. -/
structure Rs (W : World) (H : Nat) (v : Value) (at_ E : Int) : Prop where
  l : W.heap[H]? = some (.cells #[v] 30 (0, 0))
  a : W.heap[H + 1]? = some (.cells #[.int .i64 at_] 3 (0, 0))
  e : W.heap[H + 1 + 1]? = some (.cells #[.int .i64 E] 25 (0, 0))
theorem Rs.cells {W : World} {H : Nat} {v : Value} {at_ E : Int} (h : Rs W H v at_ E) :
    (W.cell? ⟨H, 0, none⟩ = some v ∧ W.frozen? ⟨H, 0, none⟩ = false) ∧ (W.cell? ⟨H + 1, 0, none⟩ = some (.int .i64 at_) ∧ W.frozen? ⟨H + 1, 0, none⟩ = false) ∧ (W.cell? ⟨H + 1 + 1, 0, none⟩ = some (.int .i64 E) ∧ W.frozen? ⟨H + 1 + 1, 0, none⟩ = false) ∧ H + 1 + 1 < W.heap.size := by
  obtain ⟨h1, h2, h3⟩ := h
  exact ⟨⟨by simp [World.cell?, h1], by simp [World.frozen?, h1]⟩, ⟨by simp [World.cell?, h2], by simp [World.frozen?, h2]⟩, ⟨by simp [World.cell?, h3], by simp [World.frozen?, h3]⟩, (Array.getElem?_eq_some_iff.1 h3).1⟩
theorem Rs.keep {W W' : World} {H : Nat} {v : Value} {at_ E : Int} (h : Rs W H v at_ E) (hb : ∀ i, H ≤ i → i < H + 3 → W'.heap[i]? = W.heap[i]?) : Rs W' H v at_ E :=
  ⟨(hb _ (by omega) (by omega)).trans h.l, (hb _ (by omega) (by omega)).trans h.a, (hb _ (by omega) (by omega)).trans h.e⟩
theorem Rs.set {W : World} {H : Nat} {v : Value} {at_ E : Int} (h : Rs W H v at_ E) (v' : Value) (a' E' : Int) :
    Rs (((W.setCell ⟨H, 0, none⟩ v').setCell ⟨H + 1, 0, none⟩ (.int .i64 a')).setCell ⟨H + 1 + 1, 0, none⟩ (.int .i64 E')) H v' a' E' := by
  obtain ⟨h1, h2, h3⟩ := h
  have e1 : ¬ (H = H + 1 + 1) := by omega
  have e2 : ¬ (H + 1 + 1 = H) := by omega
  refine ⟨?_, ?_, ?_⟩ <;> simp [World.setCell, h1, h2, h3, Array.getElem?_modify, e1, e2]
theorem Rs.set2 {W : World} {H : Nat} {v : Value} {at_ E : Int} (h : Rs W H v at_ E) (v' : Value) (a' : Int) :
    Rs ((W.setCell ⟨H, 0, none⟩ v').setCell ⟨H + 1, 0, none⟩ (.int .i64 a')) H v' a' E := by
  obtain ⟨h1, h2, h3⟩ := h
  have e1 : ¬ (H = H + 1 + 1) := by omega
  have e2 : ¬ (H + 1 + 1 = H) := by omega
  refine ⟨?_, ?_, ?_⟩ <;> simp [World.setCell, h1, h2, h3, Array.getElem?_modify, e1, e2]
theorem info_stone : (Tryz.prog.info? 53).map (fun i => (i.zero, i.size, i.bytes)) = some (some (sval Sheet.zero), 4, 32) := by kernel_rfl
/-- The stones of a position that the call has made. -/
def Made (lo : Nat) (w : World) (v : Value) (l : List Sn) : Prop :=
  (l = [] ∧ v = .slice none 0 0) ∨ ∃ g cap, v = .slice (some ⟨g, 0, none⟩) l.length cap ∧ lo ≤ g ∧ g < w.heap.size ∧ l.length ≤ cap ∧ cap ≤ 9223372036854775807 ∧ Stones w (some ⟨g, 0, none⟩) l
theorem flat_at : ∀ (l : List Sn) (i : Nat) (s : Sn), l[i]? = some s → (flat l)[i * 4]? = some (.int .i64 s.team) ∧ (flat l)[i * 4 + 1]? = some (.int .i64 s.n) ∧ (flat l)[i * 4 + 2]? = some (.int .i64 s.x) ∧ (flat l)[i * 4 + 3]? = some (.int .i64 s.y)
  | [], _, _, h => by simp at h
  | a :: r, 0, s, h => by
    simp at h
    subst h
    simp [flat, cs4]
  | a :: r, i + 1, s, h => by
    have := flat_at r i s (by simpa using h)
    have e : ∀ k, (flat (a :: r))[(i + 1) * 4 + k]? = (flat r)[i * 4 + k]? := fun k => by
      show (cs4 a ++ flat r)[(i + 1) * 4 + k]? = _
      rw [List.getElem?_append_right (by simp [cs4]; omega)]
      congr 1
      simp [cs4]
      omega
    exact ⟨(e 0).trans this.1, (e 1).trans this.2.1, (e 2).trans this.2.2.1, (e 3).trans this.2.2.2⟩
theorem made_of_own {w : World} {B : Nat} {v : Value} {l : List Sn} (h16 : l.length ≤ 16) (h : w.ownsRow B 53 4 v l.length (flat l)) : Made B w v l := by
  rcases h.2 with ⟨rfl, h0⟩ | ⟨g, cap, cur, rfl, h1, h2, h3, h4, h5, h6⟩
  · exact .inl ⟨List.length_eq_zero_iff.1 h0, rfl⟩
  · have hg : g < w.heap.size := (Array.getElem?_eq_some_iff.1 h2).1
    refine .inr ⟨g, cap, rfl, h1, hg, h3, by unfold maxLen at h4; omega, by omega, fun hn => ⟨_, rfl, hg, fun i s hs => ?_⟩⟩
    obtain ⟨f0, f1, f2, f3⟩ := flat_at l i s hs
    have hcur : ∀ p u, (flat l)[p]? = some u → cur[p]? = some u := fun p u hp => by
      rw [← h6] at hp
      have hlt := (List.getElem?_eq_some_iff.1 hp).1
      rw [List.getElem?_take] at hp
      split at hp
      · simpa using hp
      · cases hp
    have e : (⟨g, 0, none⟩ : Addr).add (i * 4) = ⟨g, i * 4, none⟩ := by unfold Addr.add; split <;> simp_all
    rw [e]
    refine ⟨?_, ?_, ?_, ?_⟩
    · simp [World.cell?, h2, hcur _ _ f0]
    · simp [World.cell?, h2, hcur _ _ f1]
    · simp [World.cell?, h2, hcur _ _ f2]
    · simp [World.cell?, h2, hcur _ _ f3]
def ParsePost (s : List UInt8) (w : World) (e : Ending) (w' : World) : Prop :=
  ∃ v, e = .returned (.tuple #[v, .int .i64 (parse s).2.1, .int .i64 (parse s).2.2]) ∧ Made w.heap.size w' v (parse s).1 ∧ Below w.heap.size w w'
theorem lines_data (s : ByteArray) : (after (s.size + 1) s).map (·.data.toList) = Lib.splitK [10] 1 (s.size + 1) s.data.toList := Lib.splitB_data _ _ _ _
theorem parse_long {s : List UInt8} (h : 2000 < s.length) : parse s = ([], 0, 3) := by unfold parse; rw [if_pos h]
theorem parse_err {s : List UInt8} {a : Nat} (h : ¬ 2000 < s.length) (hr : parseGo (s.length + 1) [] 0 s = .error a) : parse s = ([], (a : Int), 5) := by unfold parse; rw [if_neg h, hr]
theorem parse_ok {s : List UInt8} {l : List Sn} (h : ¬ 2000 < s.length) (hr : parseGo (s.length + 1) [] 0 s = .ok l) (hc : check l = true) : parse s = (l, 0, 0) := by unfold parse; rw [if_neg h, hr]; simp only; rw [if_pos hc]
theorem parse_bad {s : List UInt8} {l : List Sn} (h : ¬ 2000 < s.length) (hr : parseGo (s.length + 1) [] 0 s = .ok l) (hc : check l = false) : parse s = ([], (s.length : Int), 2) := by unfold parse; rw [if_neg h, hr]; simp only; rw [hc]; rfl
theorem calls_round {n l : Nat} {P : Program} {f : FuncId} {args : Array Value} {w : World} {R : Ending → World → Prop} (h : Calls P f args w R) : CallsIn (Fence.wide.inRound l) n P f args w R := (callsIn_wide (n := n)).2 h
/-- Between the lines. -/
def PI (s : ByteArray) (w : World) (B : Nat) (pre : List ByteArray) (W : World) : Prop :=
  ∃ v acc, ∃ at_ : Nat, Rs W w.heap.size v (at_ : Int) 0 ∧ W.ownsRow B 53 4 v acc.length (flat acc) ∧ acc.length ≤ 16 ∧ at_ ≤ acc.length * 2000 ∧
    Hid (∀ post, after (s.size + 1) s = pre ++ post → runP (post.map (·.data.toList)) acc at_ = parseGo (s.size + 1) [] 0 s.data.toList) ∧ Below w.heap.size w W ∧ B ≤ W.heap.size
/-- Where the loop is left. -/
def PXr (s : ByteArray) (w : World) (B : Nat) (W : World) : Prop :=
  ∃ at_ : Nat, Rs W w.heap.size (.slice none 0 0) (at_ : Int) 5 ∧ Hid (parseGo (s.size + 1) [] 0 s.data.toList = .error at_) ∧ Below w.heap.size w W ∧ B ≤ W.heap.size
def PXe (s : ByteArray) (w : World) (B : Nat) (W : World) : Prop :=
  ∃ v acc, ∃ at_ : Nat, Rs W w.heap.size v (at_ : Int) 0 ∧ W.ownsRow B 53 4 v acc.length (flat acc) ∧ acc.length ≤ 16 ∧
    Hid (parseGo (s.size + 1) [] 0 s.data.toList = .ok acc) ∧ Below w.heap.size w W ∧ B ≤ W.heap.size
def PX (s : ByteArray) (w : World) (B : Nat) : Code → List ByteArray → World → Prop
  | .ret, _, W => PXr s w B W
  | .exit 0, _, W => PXe s w B W
  | _, _, _ => False
theorem mine_ne {B b r : Nat} {W : World} (hr : ∃ o : Obj, W.heap[r]? = some o ∧ Mine B (Zs b) r o) {i : Nat} (hi : i < B) (hb : i ≠ b) : some i ≠ some r := fun e => by
  cases e
  obtain ⟨o, ho, h | h⟩ := hr
  · omega
  · exact hb h.1
theorem rs_row {B H : Nat} {W W' : World} {row : Option Nat} {v : Value} {at_ E : Int} (h : Rs W H v at_ E) (hg : W.grownBy W' row) (hB : H + 3 ≤ B) (hr : ∀ r, row = some r → ∃ o : Obj, W.heap[r]? = some o ∧ Mine B (Zs (H + 1 + 1 + 1)) r o) : Rs W' H v at_ E := by
  have hz := h.cells.2.2.2
  refine h.keep fun i h1 h2 => hg.block i (by omega) ?_
  cases row with
  | none => simp
  | some r => exact mine_ne (hr r rfl) (by omega) (by omega)
theorem own_row {B b : Nat} {W W' : World} {row : Option Nat} {v : Value} {n : Nat} {xs : List Value} (h : W.ownsRow B 53 4 v n xs) (hg : W.grownBy W' row) (hb : b < B) (hr : ∀ r, row = some r → ∃ o : Obj, W.heap[r]? = some o ∧ Mine B (Zs b) r o) : W'.ownsRow B 53 4 v n xs := by
  refine h.kept hg ?_
  cases hv' : v.ownBlock with
  | none => exact .inl rfl
  | some g =>
    refine .inr (fun e => ?_)
    obtain ⟨o, ho, hk⟩ := hr g e.symm
    obtain ⟨cur, hc'⟩ := own_at h hv'
    rw [hc'] at ho
    cases ho
    rcases hk with ⟨_, h⟩ | ⟨_, cs, f, h⟩
    · cases h
    · cases h
theorem below_row {w : World} {B b : Nat} {W W' : World} {row : Option Nat} (h : Below w.heap.size w W) (hg : W.grownBy W' row) (hb : w.heap.size ≤ b) (hB : w.heap.size ≤ B) (hr : ∀ r, row = some r → ∃ o : Obj, W.heap[r]? = some o ∧ Mine B (Zs b) r o) : Below w.heap.size w W' := by
  refine h.grown hg h.size (fun k e => ?_)
  obtain ⟨o, ho, hk | hk⟩ := hr k e
  · omega
  · have := hk.1; omega
theorem own_put {W : World} {B : Nat} {e : TypeId} {k : Nat} {v : Value} {n : Nat} {xs : List Value} {D : Nat} (h : W.ownsRow B e k v n xs) (hD : W.heap[D]? = some (.deferred (some []))) (o : Obj) : (W.putObj D o).ownsRow B e k v n xs := by
  refine h.kept (grownBy_putObj' W D o) ?_
  cases hv' : v.ownBlock with
  | none => exact .inl rfl
  | some g =>
    refine .inr (fun e => ?_)
    obtain ⟨cur, hc'⟩ := own_at h hv'
    cases e
    rw [hc'] at hD
    cases hD
theorem pi_abides (s : ByteArray) (w : World) (B : Nat) (hB : w.heap.size + 1 + 1 + 1 + 1 + 1 + 1 = B) : AbY (Mine B (Zs (w.heap.size + 1 + 1 + 1))) (PI s w B) := by
  rintro pre W W' row ⟨v, acc, at_, hR, hO, h1, h2, h3, h4, h5⟩ hg hr
  exact ⟨v, acc, at_, rs_row hR hg (by omega) hr, own_row hO hg (by omega) hr, h1, h2, h3, below_row h4 hg (by omega) (by omega) hr, Nat.le_trans h5 hg.size⟩
theorem px_abides (s : ByteArray) (w : World) (B : Nat) (hB : w.heap.size + 1 + 1 + 1 + 1 + 1 + 1 = B) (c : Code) : AbY (Mine B (Zs (w.heap.size + 1 + 1 + 1))) (PX s w B c) := by
  intro pre W W' row h hg hr
  unfold PX at h ⊢
  split at h
  · obtain ⟨at_, hR, h3, h4, h5⟩ := h
    exact ⟨at_, rs_row hR hg (by omega) hr, h3, below_row h4 hg (by omega) (by omega) hr, Nat.le_trans h5 hg.size⟩
  · obtain ⟨v, acc, at_, hR, hO, h1, h3, h4, h5⟩ := h
    exact ⟨v, acc, at_, rs_row hR hg (by omega) hr, own_row hO hg (by omega) hr, h1, h3, below_row h4 hg (by omega) (by omega) hr, Nat.le_trans h5 hg.size⟩
  · exact h.elim
set_option maxHeartbeats 4000000 in
set_option maxRecDepth 100000 in
theorem parse_in (s : ByteArray) (hs : s.size ≤ 1000000) (w : World) (hE : Env w) :
    CallsIn Fence.wide 0 Tryz.prog 15 #[.string s] w (ParsePost s.data.toList w) := by
  obtain ⟨i0, hi, hz0, hz1, hz2⟩ := info_parts info_stone
  have hsz : s.data.toList.length = s.size := (Lib.size_eq s).symm
  rcases (by omega : 2000 < s.size ∨ s.size ≤ 2000) with h2 | h2
  · have hp := Lib.hid (parse_long (s := s.data.toList) (by omega))
    have hd : decide (2000 < (s.size : Int)) = true := decide_eq_true (by omega)
    have hd' : decide ((s.size : Int) > 2000) = true := hd
    refine callsIn_of_wp_marks Tryz.func15 rfl trivial ?_ rfl
    simp only [Tryz.ntmps15, List.size_toArray, List.length_cons, List.length_nil, Nat.reduceAdd, Nat.reduceSub, Array.replicate_succ, Array.replicate_zero, List.push_toArray, List.append_toArray, List.nil_append, List.cons_append]
    gi_wp2
    show ∃ v, _ ∧ _
    refine ⟨.tuple #[.slice none 0 0, .int .i64 0, .int .i64 3], ?_, _, by rw [hp.out], by rw [hp.out]; exact .inl ⟨rfl, rfl⟩, by (repeat (first | (with_reducible exact Below.refl _ _) | (with_reducible assumption) | (with_reducible refine b_alloc ?_) | (with_reducible refine b_drew ?_) | (with_reducible refine b_drewN ?_) | (with_reducible refine b_set ?_ (by first | (simp; done) | (dsimp only; omega))) | (with_reducible refine b_call ?_ (by assumption))))⟩
    simp [results, Tryz.results15, go_sem]
  · have hd : decide (2000 < (s.size : Int)) = false := decide_eq_false (by omega)
    have hd' : decide ((s.size : Int) > 2000) = false := hd
    have hrun := Lib.hid (run_parse (s.size + 1) s.data.toList [] 0 (by omega))
    rw [← lines_data] at hrun
    refine callsIn_of_wp_marks Tryz.func15 rfl trivial ?_ rfl
    simp only [Tryz.ntmps15, List.size_toArray, List.length_cons, List.length_nil, Nat.reduceAdd, Nat.reduceSub, Array.replicate_succ, Array.replicate_zero, List.push_toArray, List.append_toArray, List.nil_append, List.cons_append]
    gi_wp2_with (refine ⟨trivial, rfl, ?_⟩; gi_at_call 49; refine (callsIn_wide.2 (SplitAfterSeq_any _ _)).mono ?_; rintro e w2 ⟨rfl, hb0, hb1, hb2, hz2', hB2⟩)
    rename_i K hK
    have hs2 := hB2.size
    have hB2' : Below w.heap.size w w2 := b_call (b_alloc (b_alloc (b_alloc (Below.refl _ _)))) hB2
    have hRs : Rs w2 w.heap.size (.slice none 0 0) 0 0 :=
      ⟨(hB2.block _ (by simp; omega)).trans ((alloc_old _ _ (by simp; omega)).trans ((alloc_old _ _ (by simp)).trans (alloc_at _ _))),
       (hB2.block _ (by simp)).trans ((alloc_old _ _ (by simp)).trans (alloc_at' (by simp))), (hB2.block _ (by simp)).trans (alloc_at' (by simp))⟩
    simp at hz2' hb0 hb1 hb2 hs2
    have hg := splitSeq1_comes s hs (w.heap.size + 1 + 1 + 1) w2 hb0 hb1 hb2
    have hwz : w.heap.size + 1 + 1 + 1 + 1 + 1 + 1 = w2.heap.size := by omega
    refine range_lawX (gf := 90) (lb := #[.pointer (some ⟨w.heap.size + 1 + 1 + 1 + 1, 0, none⟩), .pointer (some ⟨w.heap.size + 1 + 1 + 1, 0, none⟩), .pointer (some ⟨w.heap.size + 1 + 1 + 1 + 1 + 1, 0, none⟩)]) rfl (enters_of Tryz.func90 (by kernel_rfl) rfl) hg
      (by rintro r o ⟨_, cs, f, rfl⟩; rfl) (fun h k => ⟨Nat.le_trans h.size k.size, fun i h1 h2 => (k.same i h1 h2).trans (h.same i h1 h2)⟩) (fun W l' o o' hl _ _ => ⟨by simp, fun i h1 h2 => World.putObj_heap_other (by omega)⟩) (Below.refl _ _) (fun _ => rfl)
      (PI s w w2.heap.size) (PX s w w2.heap.size) (pi_abides s w _ hwz) (px_abides s w _ hwz)
      ⟨_, [], 0, hRs, World.ownsRow_nil _ _ _ _, by simp, by simp, fun post hp => by rw [List.nil_append] at hp; rw [← hp]; exact hrun.out, hB2', Nat.le_refl _⟩
      (fun T x a' W => a' = { tmps := (T.setIfInBounds 15 (.string x)).setIfInBounds 5 (.string x), defers := [] })
      (fun T x a' s W W' row hs hg hr => hs)
      ?assign ?body ?done ?stop
    case assign =>
      rintro lid pre x W K2 hPI hK2
      simp only [encz]
      gi_wp2
      exact hK2 _ _ (KeepsFrom.refl _ _) ⟨Nat.le_refl _, fun i _ _ => rfl⟩ hPI rfl
    case body =>
      rintro lid pre x a' W ⟨v, acc, at_, hR, hO, h16, hat, hrn, hB, hw3⟩ rfl ⟨post, hpost⟩
      simp only [List.setIfInBounds_toArray, List.set_cons_zero, List.set_cons_succ]
      have hRH := Lib.hid hR
      have hzH := Lib.hid hz2'
      have hB2H := Lib.hid hB2
      clear hwz hz2' hs2 hB2 hB2'
      have hxl : x.data.toList.length ≤ s.data.toList.length := by
        have hm : x.data.toList ∈ Lib.splitK [10] 1 (s.size + 1) s.data.toList := by rw [← lines_data, hpost]; simp
        exact splitK_len _ _ _ _ _ hm
      have hxs : x.data.toList.length = x.size := (Lib.size_eq x).symm
      have hthis := Lib.hid (hrn.out (x :: post) hpost)
      have hnext : Hid (∀ post', after (s.size + 1) s = (pre ++ [x]) ++ post' → post' = post) := fun post' hp => by rw [hpost] at hp; simp at hp; exact hp.symm
      clear hpost hrn hg hRs hb0 hb1 hb2 hrun
      obtain ⟨⟨l0, l1⟩, ⟨a0, a1⟩, ⟨e0, e1⟩, hzz⟩ := hR.cells
      obtain ⟨cap, hv⟩ : ∃ cap : Nat, ∃ ad, v = .slice ad acc.length cap := by
        rcases hO.2 with ⟨rfl, h0⟩ | ⟨g, cap, cur, rfl, _⟩
        · exact ⟨0, none, by rw [h0]⟩
        · exact ⟨cap, _, rfl⟩
      obtain ⟨ad, rfl⟩ := hv
      rcases (by omega : x.size = 0 ∨ 0 < x.size) with hx0 | hx0
      · have hxe : x.data.toList = [] := List.length_eq_zero_iff.1 (by omega)
        have hemp : x.toList.isEmpty = true := by rw [Lib.toList_data, hxe]; rfl
        have hok : Hid (parseGo (s.size + 1) [] 0 s.data.toList = .ok acc) := hthis.out.symm.trans (by
          rw [List.map_cons, hxe]
          rfl)
        clear hxe
        gi_wp2
        exact ⟨KeepsFrom.refl _ _, _, acc, at_, hRH.out, hO, h16, hok, hB, hw3⟩
      · have hneL : Hid (x.data.toList ≠ []) := fun e => by rw [e] at hxs; simp at hxs; omega
        have hemp : x.toList.isEmpty = false := by
          rw [Lib.toList_data]
          cases hx : x.data.toList with
          | nil => exact absurd hx hneL.out
          | cons a r => rfl
        have hcut : ∀ W : World, Calls Tryz.prog 50 #[.string x, .string ⟨#[10]⟩] W fun e w' => e = .returned (.tuple #[.string ⟨(Lib.trimSuffix x.data.toList [10]).toArray⟩, .bool (Lib.hasSuffix x.data.toList [10])]) ∧ w' = W := fun W => Tryz.strings_CutSuffix x ⟨#[10]⟩ W (by omega)
        obtain ⟨ln, hln⟩ : ∃ ln : ByteArray, ln = ⟨(Lib.trimSuffix x.data.toList [10]).toArray⟩ := ⟨_, rfl⟩
        have hlnd : ln.data.toList = Lib.trimSuffix x.data.toList [10] := by rw [hln]
        obtain ⟨F, hF⟩ : ∃ F : Bool, F = Lib.hasSuffix x.data.toList [10] := ⟨_, rfl⟩
        rw [← hln, ← hF] at hcut
        have hlz : ln.size ≤ 1000000 := by
          rw [Lib.size_eq, hlnd]
          have := Lib.trimSuffix_le x.data.toList [10]
          omega
        have hEW := Lib.hid (fun W (h : Below w.heap.size w W) => stone_any ln hlz W (hE.below h))
        rw [hlnd] at hEW
        have hcutH := Lib.hid hcut
        clear hcut hln hlnd
        obtain ⟨Ok, hOk⟩ : ∃ Ok : Bool, Ok = (stoneOf (Lib.trimSuffix x.data.toList [10])).isSome := ⟨_, rfl⟩
        have hOkH := Lib.hid hOk
        have hFH := Lib.hid hF
        have hEO : Hid (∀ W, Below w.heap.size w W → Calls Tryz.prog 51 #[.string ln] W fun e w' => ∃ y, e = .returned (.tuple #[sval y, .bool Ok]) ∧ Hid (∀ z, stoneOf (Lib.trimSuffix x.data.toList [10]) = some z → y = z) ∧ Below W.heap.size W w') := fun W h => (hEW.out W h).mono fun e w' ⟨y, he, hy, hb⟩ => ⟨y, by rw [hOkH.out]; exact he, hy, hb⟩
        clear hOk hF hEW
        gi_wp2
        refine ⟨trivial, rfl, ?_⟩
        refine (calls_round (hcutH.out _)).mono ?_
        rintro e w3 ⟨rfl, rfl⟩
        clear hcutH
        gi_wp2
        refine ⟨trivial, rfl, ?_⟩
        refine (calls_round (hEO.out _ (by (repeat (first | (with_reducible exact Below.refl _ _) | (with_reducible assumption) | (with_reducible refine b_alloc ?_) | (with_reducible refine b_drew ?_) | (with_reducible refine b_drewN ?_) | (with_reducible refine b_set ?_ (by first | (simp; done) | (dsimp only; omega))) | (with_reducible refine b_call ?_ (by assumption))))))).mono ?_
        rintro e w4 ⟨y, rfl, hy, hB4⟩
        clear hEO
        have hR4 : Rs w4 w.heap.size (.slice ad acc.length cap) at_ 0 := hRH.out.keep fun i h1 h2 => hB4.block i (by omega)
        have hO4 : w4.ownsRow w2.heap.size 53 4 (.slice ad acc.length cap) acc.length (flat acc) := own_below hO hB4
        have hz4 := hB4.size
        have hBw4 : Below w.heap.size w w4 := b_call hB hB4
        clear l0 l1 a0 a1 e0 e1 hO hR
        obtain ⟨⟨l0, l1⟩, ⟨a0, a1⟩, ⟨e0, e1⟩, hzz4⟩ := hR4.cells
        have z0 : w.heap.size < w4.heap.size := by omega
        have z1 : w.heap.size + 1 < w4.heap.size := by omega
        have hR4H := Lib.hid hR4
        clear hR4
        obtain ⟨W5, hW5⟩ : ∃ W5, w4.alloc (.cells #[.int .i64 y.team, .int .i64 y.n, .int .i64 y.x, .int .i64 y.y] 53 (0, 0)) = W5 := ⟨_, rfl⟩
        have hR5 : Hid (Rs W5 w.heap.size (.slice ad acc.length cap) at_ 0) := hW5 ▸ hR4H.out.keep fun i h1 h2 => alloc_old _ _ (by omega)
        have hO5 : Hid (W5.ownsRow w2.heap.size 53 4 (.slice ad acc.length cap) acc.length (flat acc)) := hW5 ▸ hO4.alloc _
        have hB5 : Hid (Below w.heap.size w W5) := hW5 ▸ b_alloc hBw4
        have hx5 : Hid (W5.heap[w4.heap.size]? = some (.cells #[.int .i64 y.team, .int .i64 y.n, .int .i64 y.x, .int .i64 y.y] 53 (0, 0))) := hW5 ▸ alloc_at _ _
        have hs5 : Hid (W5.heap.size = w4.heap.size + 1) := by
          show W5.heap.size = _
          rw [← hW5]
          simp
        have hK5 : Hid (KeepsFrom w2.heap.size w3 W5 ∧ Kp3 (w.heap.size + 1 + 1 + 1) w3 W5) := by
          rw [← hW5]
          refine ⟨kf_alloc ⟨hz4, fun i o _ h1 h2 => (hB4.block i (Array.getElem?_eq_some_iff.1 h1).1).trans h1⟩, by simp; omega, fun i h1 h2 => ?_⟩
          have := hzH.out
          exact (alloc_old _ _ (by omega)).trans (hB4.block i (by omega))
        have hOw : Hid (∀ g, (Value.slice ad acc.length cap).ownBlock = some g → g < w4.heap.size) := fun g hg => by
          obtain ⟨cur, hc⟩ := own_at hO4 hg
          exact (Array.getElem?_eq_some_iff.1 hc).1
        have hat' : at_ ≤ 32000 := by omega
        have hzW : Hid (w2.heap.size ≤ W5.heap.size) := by
          show w2.heap.size ≤ W5.heap.size
          rw [← hW5]
          simp
          omega
        have hx' : x.size ≤ 2000 := by omega
        have hwr : IntKind.i64.wrap ((at_ : Int) + (x.size : Int)) = (at_ : Int) + (x.size : Int) := Go.IntWalk.i64_in _ ⟨by omega, by omega⟩
        have hW5H := Lib.hid hW5
        clear hW5 hO4 hBw4 hB4
        cases F with
        | false =>
          gi_wp2
          rw [hW5H.out]
          clear hW5H hR4H l0 l1 a0 a1 e0 e1 z0 z1 hzz4 hz4
          obtain ⟨⟨l0, l1⟩, ⟨a0, a1⟩, ⟨e0, e1⟩, hzz5⟩ := hR5.out.cells
          refine wpIn_region_z (z := 3) (fun W' => W'.cell? ⟨w.heap.size + 1, 0, none⟩ = some (.int .i64 (at_ : Int))) (by kernel_rfl) (by kernel_rfl) (fun ⟨_, _, h⟩ => h) ?_
          show wpAnyZ _ _ _ _ _ _ 4 _ _ _
          refine wpAnyZ_take (i := 0) (v := .int .i64 (at_ : Int)) rfl (by kernel_rfl) rfl (by kernel_rfl) (by kernel_rfl) (by kernel_rfl) (fun _ _ _ h => h) (by rfl) (fun W' hS => ?t) ?s ?_
          case t => go_simp
          case s => exact a0
          simp only [Act.put, List.setIfInBounds_toArray, List.set_cons_zero, List.set_cons_succ]
          refine wpAnyZ_one (i := 1) rfl (by kernel_rfl) (by rfl) ?_
          go_simp
          refine wpAnyZ_one (i := 2) rfl (by kernel_rfl) (by rfl) ?_
          go_simp
          refine wpAnyZ_one (i := 3) rfl (by kernel_rfl) (by rfl) ?_
          go_simp
          refine wpAnyZ_done (by kernel_rfl) ?_
          gi_wp2
          refine ⟨kf_drew (kf_set (kf_set (kf_set hK5.out.1))), at_, ⟨(hR5.out.set _ _ _).l, (hR5.out.set _ _ _).a, (hR5.out.set _ _ _).e⟩, ?_, ?_, ?_⟩
          · exact hthis.out.symm.trans (runP_no hneL.out hFH.out.symm)
          · exact b_drew (((hB5.out.setCell (p := ⟨w.heap.size, 0, none⟩) (by simp) _).setCell (p := ⟨w.heap.size + 1, 0, none⟩) (by simp) _).setCell (p := ⟨w.heap.size + 1 + 1, 0, none⟩) (by simp; omega) _)
          · have := hzW.out
            simp [World.setCell]
            omega
        | true =>
          cases Ok with
          | false =>
            gi_wp2
            rw [hW5H.out]
            clear hW5H hR4H l0 l1 a0 a1 e0 e1 z0 z1 hzz4 hz4
            obtain ⟨⟨l0, l1⟩, ⟨a0, a1⟩, ⟨e0, e1⟩, hzz5⟩ := hR5.out.cells
            refine wpIn_region_z (z := 3) (fun W' => W'.cell? ⟨w.heap.size + 1, 0, none⟩ = some (.int .i64 (at_ : Int))) (by kernel_rfl) (by kernel_rfl) (fun ⟨_, _, h⟩ => h) ?_
            show wpAnyZ _ _ _ _ _ _ 4 _ _ _
            refine wpAnyZ_take (i := 0) (v := .int .i64 (at_ : Int)) rfl (by kernel_rfl) rfl (by kernel_rfl) (by kernel_rfl) (by kernel_rfl) (fun _ _ _ h => h) (by rfl) (fun W' hS => ?t) ?s ?_
            case t => go_simp
            case s => exact a0
            simp only [Act.put, List.setIfInBounds_toArray, List.set_cons_zero, List.set_cons_succ]
            refine wpAnyZ_one (i := 1) rfl (by kernel_rfl) (by rfl) ?_
            go_simp
            refine wpAnyZ_one (i := 2) rfl (by kernel_rfl) (by rfl) ?_
            go_simp
            refine wpAnyZ_one (i := 3) rfl (by kernel_rfl) (by rfl) ?_
            go_simp
            refine wpAnyZ_done (by kernel_rfl) ?_
            gi_wp2
            refine ⟨kf_drew (kf_set (kf_set (kf_set hK5.out.1))), at_, ⟨(hR5.out.set _ _ _).l, (hR5.out.set _ _ _).a, (hR5.out.set _ _ _).e⟩, ?_, ?_, ?_⟩
            · exact hthis.out.symm.trans (runP_bad hneL.out (by have h := hOkH.out; cases hq : stoneOf (Lib.trimSuffix x.data.toList [10]) with | none => rfl | some q => rw [hq] at h; cases h))
            · exact b_drew (((hB5.out.setCell (p := ⟨w.heap.size, 0, none⟩) (by simp) _).setCell (p := ⟨w.heap.size + 1, 0, none⟩) (by simp) _).setCell (p := ⟨w.heap.size + 1 + 1, 0, none⟩) (by simp; omega) _)
            · have := hzW.out
              simp [World.setCell]
              omega
          | true =>
            rcases (by omega : acc.length = 16 ∨ acc.length < 16) with h16' | h16'
            · have hd16 : ((acc.length : Int) == 16) = true := by simp; omega
              gi_wp2
              rw [hW5H.out]
              clear hW5H hR4H l0 l1 a0 a1 e0 e1 z0 z1 hzz4 hz4
              obtain ⟨⟨l0, l1⟩, ⟨a0, a1⟩, ⟨e0, e1⟩, hzz5⟩ := hR5.out.cells
              refine wpIn_region_z (z := 3) (fun W' => W'.cell? ⟨w.heap.size + 1, 0, none⟩ = some (.int .i64 (at_ : Int))) (by kernel_rfl) (by kernel_rfl) (fun ⟨_, _, h⟩ => h) ?_
              show wpAnyZ _ _ _ _ _ _ 4 _ _ _
              refine wpAnyZ_take (i := 0) (v := .int .i64 (at_ : Int)) rfl (by kernel_rfl) rfl (by kernel_rfl) (by kernel_rfl) (by kernel_rfl) (fun _ _ _ h => h) (by rfl) (fun W' hS => ?t) ?s ?_
              case t => go_simp
              case s => exact a0
              simp only [Act.put, List.setIfInBounds_toArray, List.set_cons_zero, List.set_cons_succ]
              refine wpAnyZ_one (i := 1) rfl (by kernel_rfl) (by rfl) ?_
              go_simp
              refine wpAnyZ_one (i := 2) rfl (by kernel_rfl) (by rfl) ?_
              go_simp
              refine wpAnyZ_one (i := 3) rfl (by kernel_rfl) (by rfl) ?_
              go_simp
              refine wpAnyZ_done (by kernel_rfl) ?_
              gi_wp2
              refine ⟨kf_drew (kf_set (kf_set (kf_set hK5.out.1))), at_, ⟨(hR5.out.set _ _ _).l, (hR5.out.set _ _ _).a, (hR5.out.set _ _ _).e⟩, ?_, ?_, ?_⟩
              · exact hthis.out.symm.trans (runP_full hneL.out h16')
              · exact b_drew (((hB5.out.setCell (p := ⟨w.heap.size, 0, none⟩) (by simp) _).setCell (p := ⟨w.heap.size + 1, 0, none⟩) (by simp) _).setCell (p := ⟨w.heap.size + 1 + 1, 0, none⟩) (by simp; omega) _)
              · have := hzW.out
                simp [World.setCell]
                omega
            · have hd16 : ((acc.length : Int) == 16) = false := by simp; omega
              gi_wp2
              rw [hW5H.out]
              clear hW5H hR4H l0 l1 a0 a1 e0 e1 z0 z1 hzz4 hz4
              obtain ⟨⟨l0, l1⟩, ⟨a0, a1⟩, ⟨e0, e1⟩, hzz5⟩ := hR5.out.cells
              have hzx : w4.heap.size < W5.heap.size := by have := hs5.out; omega
              have x0 : W5.cell? ⟨w4.heap.size, 0, none⟩ = some (.int .i64 y.team) := by simp [World.cell?, hx5.out]
              have x1 : W5.cell? ⟨w4.heap.size, 1, none⟩ = some (.int .i64 y.n) := by simp [World.cell?, hx5.out]
              have x2 : W5.cell? ⟨w4.heap.size, 2, none⟩ = some (.int .i64 y.x) := by simp [World.cell?, hx5.out]
              have x3 : W5.cell? ⟨w4.heap.size, 3, none⟩ = some (.int .i64 y.y) := by simp [World.cell?, hx5.out]
              refine wpIn_region_z (z := 9) (fun W' => W'.cell? ⟨w4.heap.size, 0, none⟩ = some (.int .i64 y.team) ∧ W'.cell? ⟨w4.heap.size, 1, none⟩ = some (.int .i64 y.n) ∧ W'.cell? ⟨w4.heap.size, 2, none⟩ = some (.int .i64 y.x) ∧ W'.cell? ⟨w4.heap.size, 3, none⟩ = some (.int .i64 y.y) ∧ W'.cell? ⟨w.heap.size + 1, 0, none⟩ = some (.int .i64 (at_ : Int))) (by kernel_rfl) (by kernel_rfl) (fun ⟨_, _, h⟩ => h) ?_
              show wpAnyZ _ _ _ _ _ _ 10 _ _ _
              refine wpAnyZ_take (i := 1) (v := sval y) rfl (by kernel_rfl) rfl (by kernel_rfl) (by kernel_rfl) (by kernel_rfl) (fun _ _ _ h => h) (by rfl) (fun W' hS => ?t) ?s ?_
              case t => obtain ⟨s0, s1, s2, s3, s4⟩ := hS; (first | (go_simp; done) | (go_simp; exact hwr))
              case s => exact ⟨x0, x1, x2, x3, a0⟩
              simp only [Act.put, List.setIfInBounds_toArray, List.set_cons_zero, List.set_cons_succ]
              refine wpAnyZ_take (i := 4) (v := .int .i64 (at_ : Int)) rfl (by kernel_rfl) rfl (by kernel_rfl) (by kernel_rfl) (by kernel_rfl) (fun _ _ _ h => h) (by rfl) (fun W' hS => ?t) ?s ?_
              case t => obtain ⟨s0, s1, s2, s3, s4⟩ := hS; (first | (go_simp; done) | (go_simp; exact hwr))
              case s => exact ⟨x0, x1, x2, x3, a0⟩
              simp only [Act.put, List.setIfInBounds_toArray, List.set_cons_zero, List.set_cons_succ]
              refine wpAnyZ_take (i := 5) (v := .string x) rfl (by kernel_rfl) rfl (by kernel_rfl) (by kernel_rfl) (by kernel_rfl) (fun _ _ _ h => h) (by rfl) (fun W' hS => ?t) ?s ?_
              case t => obtain ⟨s0, s1, s2, s3, s4⟩ := hS; (first | (go_simp; done) | (go_simp; exact hwr))
              case s => exact ⟨x0, x1, x2, x3, a0⟩
              simp only [Act.put, List.setIfInBounds_toArray, List.set_cons_zero, List.set_cons_succ]
              refine wpAnyZ_take (i := 6) (v := .int .i64 (x.size : Int)) rfl (by kernel_rfl) rfl (by kernel_rfl) (by kernel_rfl) (by kernel_rfl) (fun _ _ _ h => h) (by rfl) (fun W' hS => ?t) ?s ?_
              case t => obtain ⟨s0, s1, s2, s3, s4⟩ := hS; (first | (go_simp; done) | (go_simp; exact hwr))
              case s => exact ⟨x0, x1, x2, x3, a0⟩
              simp only [Act.put, List.setIfInBounds_toArray, List.set_cons_zero, List.set_cons_succ]
              refine wpAnyZ_take (i := 7) (v := .int .i64 ((at_ : Int) + (x.size : Int))) rfl (by kernel_rfl) rfl (by kernel_rfl) (by kernel_rfl) (by kernel_rfl) (fun _ _ _ h => h) (by rfl) (fun W' hS => ?t) ?s ?_
              case t => obtain ⟨s0, s1, s2, s3, s4⟩ := hS; (first | (go_simp; done) | (go_simp; exact hwr))
              case s => exact ⟨x0, x1, x2, x3, a0⟩
              simp only [Act.put, List.setIfInBounds_toArray, List.set_cons_zero, List.set_cons_succ]
              have hz50 : w.heap.size < W5.heap.size := by omega
              have hz51 : w.heap.size + 1 < W5.heap.size := by omega
              have hzw := hzW.out
              have hzh : w.heap.size + 3 ≤ w2.heap.size := by have := hzH.out; omega
              have hn4 : ¬ (w4.heap.size = w.heap.size) := by have := hs5.out; omega
              have hn4' : ¬ (w.heap.size = w4.heap.size) := by have := hs5.out; omega
              have h6b : w2.heap.size ≤ ((W5.alloc (.cells #[.int .i64 y.team, .int .i64 y.n, .int .i64 y.x, .int .i64 y.y] 53 (0, 0))).drew).heap.size := by simp; omega
              have h6o : ((W5.alloc (.cells #[.int .i64 y.team, .int .i64 y.n, .int .i64 y.x, .int .i64 y.y] 53 (0, 0))).drew).ownsRow w2.heap.size 53 4 (.slice ad acc.length cap) acc.length (flat acc) := hO5.out.alloc _
              have h6n : ∀ j u, (cs4 y)[j]? = some u → ((W5.alloc (.cells #[.int .i64 y.team, .int .i64 y.n, .int .i64 y.x, .int .i64 y.y] 53 (0, 0))).drew).cell? ((⟨W5.heap.size, 0, none⟩ : Addr).add j) = some u := fun j u h => World.news_of_block (w := (W5.alloc (.cells #[.int .i64 y.team, .int .i64 y.n, .int .i64 y.x, .int .i64 y.y] 53 (0, 0))).drew) (alloc_at W5 _) j u h
              have h6c : ∀ u ∈ cs4 y, u.oneCell' = true := by intro u hu; simp [cs4] at hu; rcases hu with rfl | rfl | rfl | rfl <;> rfl
              have h6R : Rs ((W5.alloc (.cells #[.int .i64 y.team, .int .i64 y.n, .int .i64 y.x, .int .i64 y.y] 53 (0, 0))).drew) w.heap.size (.slice ad acc.length cap) at_ 0 := hR5.out.keep fun i h1 h2 => alloc_old W5 _ (by omega)
              have hne6 : some w4.heap.size ≠ (Value.slice ad acc.length cap).ownBlock := fun e => by have := hOw.out _ e.symm; omega
              have hy6 : ((W5.alloc (.cells #[.int .i64 y.team, .int .i64 y.n, .int .i64 y.x, .int .i64 y.y] 53 (0, 0))).drew).heap[w4.heap.size]? = some (.cells #[.int .i64 y.team, .int .i64 y.n, .int .i64 y.x, .int .i64 y.y] 53 (0, 0)) := (alloc_old W5 _ hzx).trans hx5.out
              have y0 : ((W5.alloc (.cells #[.int .i64 y.team, .int .i64 y.n, .int .i64 y.x, .int .i64 y.y] 53 (0, 0))).drew).cell? ⟨w4.heap.size, 0, none⟩ = some (.int .i64 y.team) := by unfold World.cell?; rw [hy6]; rfl
              have y1 : ((W5.alloc (.cells #[.int .i64 y.team, .int .i64 y.n, .int .i64 y.x, .int .i64 y.y] 53 (0, 0))).drew).cell? ⟨w4.heap.size, 1, none⟩ = some (.int .i64 y.n) := by unfold World.cell?; rw [hy6]; rfl
              have y2 : ((W5.alloc (.cells #[.int .i64 y.team, .int .i64 y.n, .int .i64 y.x, .int .i64 y.y] 53 (0, 0))).drew).cell? ⟨w4.heap.size, 2, none⟩ = some (.int .i64 y.x) := by unfold World.cell?; rw [hy6]; rfl
              have y3 : ((W5.alloc (.cells #[.int .i64 y.team, .int .i64 y.n, .int .i64 y.x, .int .i64 y.y] 53 (0, 0))).drew).cell? ⟨w4.heap.size, 3, none⟩ = some (.int .i64 y.y) := by unfold World.cell?; rw [hy6]; rfl
              refine wpAnyZ_two (i := 0) (k := 2) rfl rfl (by kernel_rfl) (by rfl) (by rfl) ?_ ?_
              · go_simp
                refine wpAnyZ_one (i := 2) rfl (by kernel_rfl) (by rfl) ?_
                go_simp
                refine wpAnyZ_one (i := 3) rfl (by kernel_rfl) (by rfl) ?_
                refine wp_append_lies _ _ _ 30 (by rfl) w2.heap.size 53 i0 (sval Sheet.zero) 4 32 (by kernel_rfl) hi hz0 hz1 hz2 rfl (by decide) (.slice ad acc.length cap) acc.length (flat acc) (by rfl) h6o ⟨W5.heap.size, 0, none⟩ 1 1 (cs4 y) (by rfl) rfl h6n h6c (by decide) (by unfold maxLen; omega) (by omega) h6b (W5.heap.size + 1) (by simp) ?_
                intro g cap' w' hown' hgrow hat7 hlt
                have b6 := own_grow h6o hgrow h6b
                have hR7 : Rs w' w.heap.size (.slice ad acc.length cap) at_ 0 := h6R.keep fun i h1 h2 => b6.block i (by omega)
                have X0 := (hgrow.cell_far ⟨w4.heap.size, 0, none⟩ (by simp; omega) hne6).trans y0
                have X1 := (hgrow.cell_far ⟨w4.heap.size, 1, none⟩ (by simp; omega) hne6).trans y1
                have X2 := (hgrow.cell_far ⟨w4.heap.size, 2, none⟩ (by simp; omega) hne6).trans y2
                have X3 := (hgrow.cell_far ⟨w4.heap.size, 3, none⟩ (by simp; omega) hne6).trans y3
                clear l0 l1 a0 a1 e0 e1
                obtain ⟨⟨l0, l1⟩, ⟨a0, a1⟩, ⟨e0, e1⟩, hzz7⟩ := hR7.cells
                refine ⟨fun _ => ⟨X0, X1, X2, X3, a0⟩, ?_⟩
                simp only [Act.put, List.setIfInBounds_toArray, List.set_cons_zero, List.set_cons_succ]
                refine wpAnyZ_one (i := 8) rfl (by kernel_rfl) (by rfl) ?_
                go_simp
                refine wpAnyZ_one (i := 9) rfl (by kernel_rfl) (by rfl) ?_
                go_simp
                refine wpAnyZ_done (by kernel_rfl) ?_
                refine ⟨kf_set (kf_set (kf_grown (kf_drew (kf_alloc hK5.out.1)) h6o hgrow)), ⟨?_, fun i h1 h2 => ?_⟩, .slice (some ⟨g, 0, none⟩) (acc.length + 1) cap', acc ++ [y], at_ + x.size, ?_, ?_, ?_, ?_, fun post' hp => ?_, ?_, ?_⟩
                · have e1 := hK5.out.2.size
                  have e2 := b6.size
                  simp [World.setCell] at e2 ⊢
                  omega
                · have e9 := hzH.out
                  refine (Below.heap_setCell _ _ _ _ (by simp; omega)).trans ((Below.heap_setCell _ _ _ _ (by simp; omega)).trans ((b6.block i (by omega)).trans ?_))
                  exact (alloc_old W5 _ (by omega)).trans (hK5.out.2.same i h1 h2)
                · rw [show ((at_ + x.size : Nat) : Int) = (at_ : Int) + (x.size : Int) by omega]
                  exact hR7.set2 _ _
                · rw [flat_app, List.length_append]
                  exact own_set (a := ⟨w.heap.size + 1, 0, none⟩) (own_set (a := ⟨w.heap.size, 0, none⟩) hown' (by simp only; omega)) (by simp only; omega)
                · simp; omega
                · simp; omega
                · have e := hnext.out post' hp
                  subst e
                  have ho : stoneOf (Lib.trimSuffix x.data.toList [10]) = some y := by
                    have h := hOkH.out
                    cases hq : stoneOf (Lib.trimSuffix x.data.toList [10]) with
                    | none => rw [hq] at h; cases h
                    | some q => rw [hy.out q hq]
                  have := runP_go (r := post'.map (·.data.toList)) (acc := acc) (at_ := at_) hneL.out hFH.out.symm ho (by omega)
                  rw [hxs] at this
                  exact this.symm.trans hthis.out
                · exact ((b_below (b_drew (b_alloc hB5.out)) b6 (by omega)).setCell (p := ⟨w.heap.size, 0, none⟩) (by simp) _).setCell (p := ⟨w.heap.size + 1, 0, none⟩) (by simp) _
                · have e2 := b6.size
                  simp [World.setCell] at e2 ⊢
                  omega
              · go_simp
                refine wpAnyZ_one (i := 0) rfl (by kernel_rfl) (by rfl) ?_
                go_simp
                refine wpAnyZ_one (i := 3) rfl (by kernel_rfl) (by rfl) ?_
                refine wp_append_lies _ _ _ 30 (by rfl) w2.heap.size 53 i0 (sval Sheet.zero) 4 32 (by kernel_rfl) hi hz0 hz1 hz2 rfl (by decide) (.slice ad acc.length cap) acc.length (flat acc) (by rfl) h6o ⟨W5.heap.size, 0, none⟩ 1 1 (cs4 y) (by rfl) rfl h6n h6c (by decide) (by unfold maxLen; omega) (by omega) h6b (W5.heap.size + 1) (by simp) ?_
                intro g cap' w' hown' hgrow hat7 hlt
                have b6 := own_grow h6o hgrow h6b
                have hR7 : Rs w' w.heap.size (.slice ad acc.length cap) at_ 0 := h6R.keep fun i h1 h2 => b6.block i (by omega)
                have X0 := (hgrow.cell_far ⟨w4.heap.size, 0, none⟩ (by simp; omega) hne6).trans y0
                have X1 := (hgrow.cell_far ⟨w4.heap.size, 1, none⟩ (by simp; omega) hne6).trans y1
                have X2 := (hgrow.cell_far ⟨w4.heap.size, 2, none⟩ (by simp; omega) hne6).trans y2
                have X3 := (hgrow.cell_far ⟨w4.heap.size, 3, none⟩ (by simp; omega) hne6).trans y3
                clear l0 l1 a0 a1 e0 e1
                obtain ⟨⟨l0, l1⟩, ⟨a0, a1⟩, ⟨e0, e1⟩, hzz7⟩ := hR7.cells
                refine ⟨fun _ => ⟨X0, X1, X2, X3, a0⟩, ?_⟩
                simp only [Act.put, List.setIfInBounds_toArray, List.set_cons_zero, List.set_cons_succ]
                refine wpAnyZ_one (i := 8) rfl (by kernel_rfl) (by rfl) ?_
                go_simp
                refine wpAnyZ_one (i := 9) rfl (by kernel_rfl) (by rfl) ?_
                go_simp
                refine wpAnyZ_done (by kernel_rfl) ?_
                refine ⟨kf_set (kf_set (kf_grown (kf_drew (kf_alloc hK5.out.1)) h6o hgrow)), ⟨?_, fun i h1 h2 => ?_⟩, .slice (some ⟨g, 0, none⟩) (acc.length + 1) cap', acc ++ [y], at_ + x.size, ?_, ?_, ?_, ?_, fun post' hp => ?_, ?_, ?_⟩
                · have e1 := hK5.out.2.size
                  have e2 := b6.size
                  simp [World.setCell] at e2 ⊢
                  omega
                · have e9 := hzH.out
                  refine (Below.heap_setCell _ _ _ _ (by simp; omega)).trans ((Below.heap_setCell _ _ _ _ (by simp; omega)).trans ((b6.block i (by omega)).trans ?_))
                  exact (alloc_old W5 _ (by omega)).trans (hK5.out.2.same i h1 h2)
                · rw [show ((at_ + x.size : Nat) : Int) = (at_ : Int) + (x.size : Int) by omega]
                  exact hR7.set2 _ _
                · rw [flat_app, List.length_append]
                  exact own_set (a := ⟨w.heap.size + 1, 0, none⟩) (own_set (a := ⟨w.heap.size, 0, none⟩) hown' (by simp only; omega)) (by simp only; omega)
                · simp; omega
                · simp; omega
                · have e := hnext.out post' hp
                  subst e
                  have ho : stoneOf (Lib.trimSuffix x.data.toList [10]) = some y := by
                    have h := hOkH.out
                    cases hq : stoneOf (Lib.trimSuffix x.data.toList [10]) with
                    | none => rw [hq] at h; cases h
                    | some q => rw [hy.out q hq]
                  have := runP_go (r := post'.map (·.data.toList)) (acc := acc) (at_ := at_) hneL.out hFH.out.symm ho (by omega)
                  rw [hxs] at this
                  exact this.symm.trans hthis.out
                · exact ((b_below (b_drew (b_alloc hB5.out)) b6 (by omega)).setCell (p := ⟨w.heap.size, 0, none⟩) (by simp) _).setCell (p := ⟨w.heap.size + 1, 0, none⟩) (by simp) _
                · have e2 := b6.size
                  simp [World.setCell] at e2 ⊢
                  omega
    case' done =>
      rintro D W hD ⟨v, acc, at_, hR, hO, h16, hat, hrn, hB, hw3⟩ hKD
      have hok : Hid (parseGo (s.size + 1) [] 0 s.data.toList = .ok acc) := (hrn.out [] (by simp)).symm
      clear hrn hat
      refine hK _ _ ?_
    case' stop =>
      rintro D c pre W hD hX hKD
      unfold PX at hX
      split at hX
      · obtain ⟨at_, hR, her, hB, hw3⟩ := hX
        refine wpIn_ret ?_
        have hR' : Rs (W.putObj D (.deferred none)) w.heap.size (.slice none 0 0) (at_ : Int) 5 := hR.keep fun i h1 h2 => World.putObj_heap_other (by omega)
        obtain ⟨⟨l0, l1⟩, ⟨a0, a1⟩, ⟨e0, e1⟩, hzz⟩ := hR'.cells
        have hp := parse_err (s := s.data.toList) (a := at_) (by omega) (by rw [hsz]; exact her.out)
        refine leave_mark (D := D) (v := .tuple #[.slice none 0 0, .int .i64 (at_ : Int), .int .i64 5]) hKD ?_ ?_
        · generalize W.putObj D (.deferred none) = W9 at l0 a0 e0 ⊢
          simp [results, Tryz.results15, go_sem, l0, a0, e0]
        · exact ⟨_, by rw [hp], by rw [hp]; exact .inl ⟨rfl, rfl⟩, b_put hB (by omega)⟩
      rotate_left
      · exact hX.elim
      obtain ⟨v, acc, at_, hR, hO, h16, hok, hB, hw3⟩ := hX
      refine wpIn_exit ?_
      refine hK _ _ ?_
    all_goals
      have hform : ∃ A, ∃ cap : Nat, v = .slice A acc.length cap ∧ Stones W A acc ∧ acc.length ≤ cap ∧ cap ≤ 9223372036854775807 := by
        rcases made_of_own h16 hO with ⟨rfl, rfl⟩ | ⟨g, cap, rfl, _, _, h3, h4, h5⟩
        · exact ⟨none, 0, rfl, ⟨by simp, fun h => absurd h (by simp)⟩, by simp, by omega⟩
        · exact ⟨_, cap, rfl, h5, h3, h4⟩
      obtain ⟨A, cap, rfl, hS, hc1, hc2⟩ := hform
      have hchk := Lib.hid (Check_any A cap acc W hS hc1 hc2)
      obtain ⟨⟨l0, l1⟩, ⟨a0, a1⟩, ⟨e0, e1⟩, hzz⟩ := hR.cells
      have hRH := Lib.hid hR
      have hzH := Lib.hid hwz
      have hBH := Lib.hid hB
      clear hR hwz hz2' hs2 hB2 hB2' hRs hb0 hb1 hb2 hg hrun hB
      gi_wp2
      refine ⟨trivial, rfl, ?_⟩
      refine (callsIn_wide.2 hchk.out).mono ?_
      rintro e w4 ⟨rfl, hB4⟩
      clear hchk hS
      have hR4 : Rs w4 w.heap.size (.slice A acc.length cap) at_ 0 := hRH.out.keep fun i h1 h2 => hB4.block i (by omega)
      have hO4 : w4.ownsRow w2.heap.size 53 4 (.slice A acc.length cap) acc.length (flat acc) := own_below hO hB4
      have hz4 := hB4.size
      have hKD4 : w4.heap[D]? = some (.deferred (some [])) := (hB4.block D (Array.getElem?_eq_some_iff.1 hKD).1).trans hKD
      have hBw4 : Below w.heap.size w w4 := b_call hBH.out hB4
      clear l0 l1 a0 a1 e0 e1 hO hKD hB4 hRH
      obtain ⟨⟨l0, l1⟩, ⟨a0, a1⟩, ⟨e0, e1⟩, hzz4⟩ := hR4.cells
      have hR4H := Lib.hid hR4
      have hO4H := Lib.hid hO4
      have hKDH := Lib.hid hKD4
      have hlt5 : w.heap.size + 3 ≤ w2.heap.size := by have := hzH.out; omega
      clear hR4 hO4 hKD4
      cases hc : check acc with
      | true =>
        have hp := Lib.hid (parse_ok (s := s.data.toList) (by omega) (by rw [hsz]; exact hok.out) hc)
        gi_wp2
        have hR5 := hR4H.out.set (.slice A acc.length cap) 0 0
        have hKD5 : (((w4.setCell ⟨w.heap.size, 0, none⟩ (.slice A acc.length cap)).setCell ⟨w.heap.size + 1, 0, none⟩ (.int .i64 0)).setCell ⟨w.heap.size + 1 + 1, 0, none⟩ (.int .i64 0)).heap[D]? = some (.deferred (some [])) := (Below.heap_setCell _ _ _ _ (by simp; omega)).trans ((Below.heap_setCell _ _ _ _ (by simp; omega)).trans ((Below.heap_setCell _ _ _ _ (by simp; omega)).trans hKDH.out))
        have hB5 : Below w.heap.size w (((w4.setCell ⟨w.heap.size, 0, none⟩ (.slice A acc.length cap)).setCell ⟨w.heap.size + 1, 0, none⟩ (.int .i64 0)).setCell ⟨w.heap.size + 1 + 1, 0, none⟩ (.int .i64 0)) := ((hBw4.setCell (p := ⟨w.heap.size, 0, none⟩) (by simp) _).setCell (p := ⟨w.heap.size + 1, 0, none⟩) (by simp) _).setCell (p := ⟨w.heap.size + 1 + 1, 0, none⟩) (by simp; omega) _
        have hO5 : (((w4.setCell ⟨w.heap.size, 0, none⟩ (.slice A acc.length cap)).setCell ⟨w.heap.size + 1, 0, none⟩ (.int .i64 0)).setCell ⟨w.heap.size + 1 + 1, 0, none⟩ (.int .i64 0)).ownsRow w2.heap.size 53 4 (.slice A acc.length cap) acc.length (flat acc) := own_set (a := ⟨w.heap.size + 1 + 1, 0, none⟩) (own_set (a := ⟨w.heap.size + 1, 0, none⟩) (own_set (a := ⟨w.heap.size, 0, none⟩) hO4H.out (by simp only; omega)) (by simp only; omega)) (by simp only; omega)
        generalize ((w4.setCell ⟨w.heap.size, 0, none⟩ (.slice A acc.length cap)).setCell ⟨w.heap.size + 1, 0, none⟩ (.int .i64 0)).setCell ⟨w.heap.size + 1 + 1, 0, none⟩ (.int .i64 0) = W5 at hR5 hKD5 hB5 hO5 ⊢
        have hR6 : Rs (W5.putObj D (.deferred none)) w.heap.size (.slice A acc.length cap) 0 0 := hR5.keep fun i h1 h2 => World.putObj_heap_other (by omega)
        have q := hR6.cells
        obtain ⟨⟨q0, q1⟩, ⟨q2, q3⟩, ⟨q4, q5⟩, q6⟩ := q
        refine leave_mark (D := D) (v := .tuple #[.slice A acc.length cap, .int .i64 0, .int .i64 0]) hKD5 ?_ ?_
        · generalize W5.putObj D (.deferred none) = W9 at q0 q2 q4 ⊢
          simp [results, Tryz.results15, go_sem, q0, q2, q4]
        · exact ⟨_, by rw [hp.out], by rw [hp.out]; exact made_of_own h16 (own_mono (own_put hO5 hKD5 _) (by omega)), b_put hB5 (by omega)⟩
      | false =>
        have hp := Lib.hid (parse_bad (s := s.data.toList) (by omega) (by rw [hsz]; exact hok.out) hc)
        gi_wp2
        have hR5 := hR4H.out.set (.slice none 0 0) (s.size : Int) 2
        have hKD5 : (((w4.setCell ⟨w.heap.size, 0, none⟩ (.slice none 0 0)).setCell ⟨w.heap.size + 1, 0, none⟩ (.int .i64 (s.size : Int))).setCell ⟨w.heap.size + 1 + 1, 0, none⟩ (.int .i64 2)).heap[D]? = some (.deferred (some [])) := (Below.heap_setCell _ _ _ _ (by simp; omega)).trans ((Below.heap_setCell _ _ _ _ (by simp; omega)).trans ((Below.heap_setCell _ _ _ _ (by simp; omega)).trans hKDH.out))
        have hB5 : Below w.heap.size w (((w4.setCell ⟨w.heap.size, 0, none⟩ (.slice none 0 0)).setCell ⟨w.heap.size + 1, 0, none⟩ (.int .i64 (s.size : Int))).setCell ⟨w.heap.size + 1 + 1, 0, none⟩ (.int .i64 2)) := ((hBw4.setCell (p := ⟨w.heap.size, 0, none⟩) (by simp) _).setCell (p := ⟨w.heap.size + 1, 0, none⟩) (by simp) _).setCell (p := ⟨w.heap.size + 1 + 1, 0, none⟩) (by simp; omega) _
        generalize ((w4.setCell ⟨w.heap.size, 0, none⟩ (.slice none 0 0)).setCell ⟨w.heap.size + 1, 0, none⟩ (.int .i64 (s.size : Int))).setCell ⟨w.heap.size + 1 + 1, 0, none⟩ (.int .i64 2) = W5 at hR5 hKD5 hB5 ⊢
        have hR6 : Rs (W5.putObj D (.deferred none)) w.heap.size (.slice none 0 0) (s.size : Int) 2 := hR5.keep fun i h1 h2 => World.putObj_heap_other (by omega)
        have q := hR6.cells
        obtain ⟨⟨q0, q1⟩, ⟨q2, q3⟩, ⟨q4, q5⟩, q6⟩ := q
        refine leave_mark (D := D) (v := .tuple #[.slice none 0 0, .int .i64 (s.size : Int), .int .i64 2]) hKD5 ?_ ?_
        · generalize W5.putObj D (.deferred none) = W9 at q0 q2 q4 ⊢
          simp [results, Tryz.results15, go_sem, q0, q2, q4]
        · exact ⟨_, by rw [hp.out]; rw [hsz], by rw [hp.out]; exact .inl ⟨rfl, rfl⟩, b_put hB5 (by omega)⟩
theorem Parse_any (s : ByteArray) (hs : s.size ≤ 1000000) (w : World) (hE : Env w) : Calls Tryz.prog 15 #[.string s] w (ParsePost s.data.toList w) := callsIn_wide.1 (parse_in s hs w hE)
end Go.Proofs.YtbeapddadogfaaaGreatDoor
