/-
  Whether a position is valid: the program's, with its map of the stones that have come.
-/
import Derived.Test.YtbeapddadogfaaaGreatDoorF
import Derived.Maps.OwnSet
import Derived.DeepKeys4
set_option linter.unusedVariables false
set_option linter.unusedSimpArgs false
namespace Go.Proofs.YtbeapddadogfaaaGreatDoor
open Go.RowKit
open Sheet
open Go.Maps (Keyed)

theorem laid_out : laidOutB Tryz.prog = true := by kernel_rfl
theorem row_name : (93 : TypeId) < Tryz.prog.types.size := of_decide_eq_true (by kernel_rfl)
theorem wide_name : (match Tryz.prog.underlying 93 with | some (.array _ _) | some (.struct _) => true | _ => false) = true := by rw [Tryz.underlying93]
set_option maxRecDepth 100000 in
theorem law_name : Keyed Tryz.prog 93 := Keyed.of_law (deep_law_laid laid_out (m := 2) (by omega) row_name (by kernel_rfl) wide_name)
theorem keyType_name : Tryz.prog.keyType 93 = true := by kernel_rfl
theorem cells_name : Tryz.prog.cellsOf 93 = 2 := by kernel_rfl
theorem cells_int : Tryz.prog.cellsOf 3 = 1 := by kernel_rfl
/-- A name as a map's key. -/
def kl (t n : Int) : Lit := .string (keyBytes [.int .i64 t, .int .i64 n])
set_option maxRecDepth 100000 in
theorem key_name {t n : Int} (ht : (Lit.int .i64 t).wf = true) (hn : (Lit.int .i64 n).wf = true) : keyOf Tryz.prog 93 (.agg #[.int .i64 t, .int .i64 n]) = some (kl t n) := by
  obtain ⟨m, hm⟩ : ∃ m, Tryz.prog.types.size = m + 1 := ⟨_, (Nat.succ_pred_eq_of_pos (Nat.lt_of_le_of_lt (Nat.zero_le _) row_name)).symm⟩
  unfold keyOf
  simp only [Tryz.underlying93]
  rw [if_pos (by simp [keyType_name, Value.formed, Tryz.underlying93, cells_name]), hm]
  unfold Program.keyLits
  simp only [Tryz.underlying93, Value.cells]
  rw [if_pos ⟨by rw [cells_name]; rfl, by simp⟩, List.mapM_cons, List.mapM_cons, List.mapM_nil]
  simp [cells_int, Program.keyLits, Tryz.underlying3, ht, hn, kl]
theorem wf_small {n : Int} (h0 : 0 ≤ n) (h7 : n ≤ 7) : (Lit.int .i64 n).wf = true := by
  simp [Lit.wf, IntKind.min, IntKind.max, IntKind.bits, IntKind.signed]; omega
theorem kl_inj {t n t' n' : Int} (ht : (Lit.int .i64 t).wf = true) (hn : (Lit.int .i64 n).wf = true) (ht' : (Lit.int .i64 t').wf = true) (hn' : (Lit.int .i64 n').wf = true) (h : kl t n = kl t' n') : t = t' ∧ n = n' := by
  have h1 := key_name ht hn
  have h2 := key_name ht' hn'
  rw [h] at h1
  have := law_name.inj h1 h2
  simpa using this
/-- 'm[k]' at elements of type bool. -/
theorem lookup_own_bool {H : Type} {P : Program} (w : World) (t k e : TypeId) (K : Keyed P k) (ht : P.underlying t = some (.map k e)) (he : P.underlying e = some .bool) (hz : (zeroValue e).run P w = .ok (.bool false) w) (b n : Nat) (D : DataW H)
    (hown : w.ownsMap P k (plainElem P e) b n D) (key : Value) (kl : Lit) (hkey : keyOf P k key = some kl) :
    ∃ c : Bool, (Instr.lookup t (.map (some b)) key false).run P w = .ok (.bool c) w ∧ D.atKey kl (.lit (.bool false)) = .lit (.bool c) := by
  obtain ⟨v, ps, hrun, hv⟩ := hown.lookup K ht hz (plainElem_bool he false) hkey
  unfold plainElem at hv
  rw [he] at hv
  cases v <;> simp at hv
  exact ⟨_, hrun, hv.1.symm⟩
theorem zero_bool (w : World) : (zeroValue 4).run Tryz.prog w = .ok (.bool false) w := by kernel_rfl
/-- The map of the stones that have come. -/
def Seen (w : World) (B n : Nat) (D : DataW Unit) (pre : List Sn) : Prop :=
  w.ownsMap Tryz.prog 93 (plainElem Tryz.prog 4) B n D ∧
  ∀ t n : Int, 0 ≤ t → t ≤ 1 → 0 ≤ n → n ≤ 7 → D.atKey (kl t n) (.lit (.bool false)) = .lit (.bool (pre.any (fun x => x.team == t && x.n == n)))
theorem Seen.look {w : World} {B n : Nat} {D : DataW Unit} {pre : List Sn} (h : Seen w B n D pre) {t k : Int} (t0 : 0 ≤ t) (t1 : t ≤ 1) (k0 : 0 ≤ k) (k7 : k ≤ 7) :
    (Instr.lookup 91 (.map (some B)) (.agg #[.int .i64 t, .int .i64 k]) false).run Tryz.prog w = .ok (.bool (pre.any (fun x => x.team == t && x.n == k))) w := by
  obtain ⟨c, hrun, hat⟩ := lookup_own_bool w 91 _ _ law_name Tryz.underlying91 Tryz.underlying4 (zero_bool w) B n D h.1 _ _ (key_name (wf_small t0 (by omega)) (wf_small k0 k7))
  have := (h.2 t k t0 t1 k0 k7).symm.trans hat
  cases this
  exact hrun
theorem Seen.kept {w W : World} {B n : Nat} {D : DataW Unit} {pre : List Sn} (h : Seen w B n D pre) (hb : W.heap[B]? = w.heap[B]?) : Seen W B n D pre := by
  obtain ⟨⟨es, clock, h1, h2, h3, h4⟩, h5⟩ := h
  exact ⟨⟨es, clock, hb.trans h1, h2, h3, h4⟩, h5⟩
theorem Seen.lt {w : World} {B n : Nat} {D : DataW Unit} {pre : List Sn} (h : Seen w B n D pre) : B < w.heap.size := h.1.lt
theorem Seen.put {w W : World} {B n : Nat} {D : DataW Unit} {pre : List Sn} (h : Seen w B n D pre) {s : Sn} (t0 : 0 ≤ s.team) (t1 : s.team ≤ 1) (k0 : 0 ≤ s.n) (k7 : s.n ≤ 7)
    (hW : W.ownsMap Tryz.prog 93 (plainElem Tryz.prog 4) B (n + 1) (D.put (kl s.team s.n) (.lit (.bool true)))) : Seen W B (n + 1) (D.put (kl s.team s.n) (.lit (.bool true))) (pre ++ [s]) := by
  refine ⟨hW, fun t k a0 a1 b0 b7 => ?_⟩
  by_cases e : s.team = t ∧ s.n = k
  · obtain ⟨rfl, rfl⟩ := e
    rw [Go.Maps.atKey_put_same (h.1.isMap) (law_name.key (key_name (wf_small t0 (by omega)) (wf_small k0 k7)))]
    simp
  · have hne : kl t k ≠ kl s.team s.n := fun h => e (by
      obtain ⟨h1, h2⟩ := kl_inj (wf_small a0 (by omega)) (wf_small b0 b7) (wf_small t0 (by omega)) (wf_small k0 k7) h
      exact ⟨h1.symm, h2.symm⟩)
    rw [Go.Maps.atKey_put_other hne, h.2 t k a0 a1 b0 b7]
    have : (s.team == t && s.n == k) = false := by
      rw [Bool.eq_false_iff]
      intro hh
      simp at hh
      exact e hh
    simp [this]
theorem seen_made (w : World) : Seen (w.alloc (.map #[] 0)) w.heap.size 0 (.map []) [] :=
  ⟨World.ownsMap_made w _ _ _, fun t n _ _ _ _ => rfl⟩
theorem check_long {l : List Sn} (h : 16 < l.length) : check l = false := by unfold check; rw [decide_eq_false (by omega)]; rfl
theorem check_short {l : List Sn} (h : l.length ≤ 16) : check l = (soundFrom [] l && (overlapFrom 0 l).isNone) := by unfold check; rw [decide_eq_true h]; rfl
theorem sound_step {l : List Sn} {k : Nat} {s : Sn} (hs : l[k]? = some s) : soundFrom (l.take k) (l.drop k) = (s.ok && fresh (l.take k) s && soundFrom (l.take (k + 1)) (l.drop (k + 1))) := by
  have hlt := (List.getElem?_eq_some_iff.1 hs).1
  rw [List.drop_eq_getElem_cons hlt, (List.getElem?_eq_some_iff.1 hs).2, List.take_add_one, hs]
  rfl
theorem two_isNone (l : List Sn) : decide ((two (overlapFrom 0 l)).1 < 0) = (overlapFrom 0 l).isNone := by
  cases overlapFrom 0 l with
  | none => rfl
  | some p =>
    obtain ⟨i, k⟩ := p
    show decide ((i : Int) < 0) = false
    exact decide_eq_false (by omega)
end Go.Proofs.YtbeapddadogfaaaGreatDoor
