/-
  The iterator of the pieces of a text behind each end of a line.
-/
import Derived.RangeFuncNested
import Derived.RangeFuncBound
import Derived.RangeFuncCalls
import Derived.RangeFuncLeaves
import Derived.Shelf.Abstract
import Derived.Shelf.RegionOpen
import Derived.WalkKit
import Derived.OwnWalkIn
import Derived.TacticsInMore
import Derived.LoopNIn
import Derived.LoopIn
import Derived.Test.YtbeapddadogfaaaGreatDoorBase
import Derived.Test.YtbeapddadogfaaaGreatDoorShelf
import Derived.Test.YtbeapddadogfaaaGreatDoorRng
import Derived.Lib.SplitLaws
import Derived.Lib.IndexBytes
set_option linter.unusedVariables false
set_option linter.unusedSimpArgs false
namespace Go.Proofs.YtbeapddadogfaaaGreatDoor
open Go.RowKit Go.Shelf
attribute [local go_sem] Oper.semAt_some

/-- The pieces, each with its end of line; the last one is what is left. -/
def after (k : Nat) (s : ByteArray) : List ByteArray := Lib.splitB ⟨#[10]⟩ 1 k s
theorem after_miss {k : Nat} {s : ByteArray} (h : Lib.indexByte s.data.toList 10 = -1) : after k s = [s] := by
  refine Lib.splitB_miss _ _ _ _ ?_
  show Lib.index _ [10] = -1
  rw [Lib.index_one]
  exact h
theorem after_hit {k i : Nat} {s : ByteArray} (h : Lib.indexByte s.data.toList 10 = i) : after (k + 1) s = s.extract 0 (i + 1) :: after k (s.extract (i + 1) s.size) := by
  have : Lib.indexB s ⟨#[10]⟩ = i := by
    show Lib.index _ [10] = i
    rw [Lib.index_one]
    exact h
  exact Lib.splitB_hit _ _ _ _ _ this
/-- The box of a string. -/
def StrBox (w : World) (b : Nat) (s : ByteArray) : Prop := w.heap[b]? = some (.cells #[.string s] 9 (0, 0))
theorem StrBox.cell {w : World} {b : Nat} {s : ByteArray} (h : StrBox w b s) : w.cell? ⟨b, 0, none⟩ = some (.string s) ∧ w.frozen? ⟨b, 0, none⟩ = false ∧ b < w.heap.size := by
  unfold StrBox at h
  exact ⟨by simp [World.cell?, h], by simp [World.frozen?, h], (Array.getElem?_eq_some_iff.1 h).1⟩
theorem StrBox.set {w : World} {b : Nat} {s : ByteArray} (h : StrBox w b s) (u : ByteArray) : StrBox (w.setCell ⟨b, 0, none⟩ (.string u)) b u := by
  unfold StrBox at h ⊢
  simp [World.setCell, h, Array.getElem?_modify]
def SaveBox (w : World) (b : Nat) : Prop := w.heap[b]? = some (.cells #[.int .i64 1] 3 (0, 0))
theorem SaveBox.cell {w : World} {b : Nat} (h : SaveBox w b) : w.cell? ⟨b, 0, none⟩ = some (.int .i64 1) ∧ b < w.heap.size := by
  unfold SaveBox at h
  exact ⟨by simp [World.cell?, h], (Array.getElem?_eq_some_iff.1 h).1⟩
theorem alloc_here {w : World} {o : Obj} {k : Nat} (hk : k = w.heap.size) : (w.alloc o).heap[k]? = some o := by subst hk; exact alloc_at w o
/-- What a round keeps: the iterator's three boxes. -/
structure Kp3 (b : Nat) (W W' : World) : Prop where
  size : W.heap.size ≤ W'.heap.size
  same : ∀ i, b ≤ i → i < b + 3 → W'.heap[i]? = W.heap[i]?
/-- The iterator's own object. -/
def Zs (b : Nat) (r : Nat) (o : Obj) : Prop := r = b ∧ ∃ cs f, o = .cells cs 9 f
def encz (x : ByteArray) : Array Value := #[.string x]
theorem SplitAfterSeq_any (s : ByteArray) (w : World) : Calls Tryz.prog 49 #[.string s, .string ⟨#[10]⟩] w fun e w' =>
    e = .returned (.func (.func 90) #[] #[.pointer (some ⟨w.heap.size + 1, 0, none⟩), .pointer (some ⟨w.heap.size, 0, none⟩), .pointer (some ⟨w.heap.size + 1 + 1, 0, none⟩)]) ∧
      StrBox w' w.heap.size s ∧ StrBox w' (w.heap.size + 1) ⟨#[10]⟩ ∧ SaveBox w' (w.heap.size + 1 + 1) ∧ w'.heap.size = w.heap.size + 1 + 1 + 1 ∧ Below w.heap.size w w' := by
  have hmf : ∀ (fn : Fn) (first cap : Array Value) (w : World), (Instr.makeFunc fn first cap).run Tryz.prog w = .ok (.func fn first cap) w := fun _ _ _ _ => rfl
  have h1 : Calls Tryz.prog 75 #[.string s, .string ⟨#[10]⟩, .int .i64 1] w fun e w' =>
    e = .returned (.func (.func 90) #[] #[.pointer (some ⟨w.heap.size + 1, 0, none⟩), .pointer (some ⟨w.heap.size, 0, none⟩), .pointer (some ⟨w.heap.size + 1 + 1, 0, none⟩)]) ∧
      StrBox w' w.heap.size s ∧ StrBox w' (w.heap.size + 1) ⟨#[10]⟩ ∧ SaveBox w' (w.heap.size + 1 + 1) ∧ w'.heap.size = w.heap.size + 1 + 1 + 1 ∧ Below w.heap.size w w' := by
    go_enter Tryz.func75, Tryz.ntmps75
    go_wp2
    go_ret
    refine ⟨rfl, ?_, ?_, ?_, by simp, by (repeat (first | (with_reducible exact Below.refl _ _) | (with_reducible assumption) | (with_reducible refine b_alloc ?_) | (with_reducible refine b_drew ?_) | (with_reducible refine b_drewN ?_) | (with_reducible refine b_set ?_ (by first | (simp; done) | (dsimp only; omega))) | (with_reducible refine b_call ?_ (by assumption))))⟩
    · exact (alloc_old _ _ (by simp; omega)).trans ((alloc_old _ _ (by simp)).trans (alloc_at _ _))
    · exact (alloc_old _ _ (by simp)).trans (alloc_here (by simp))
    · exact alloc_here (by simp)
  go_enter Tryz.func49, Tryz.ntmps49
  go_wp2_with fail
  refine h1.mono ?_
  rintro e w1 ⟨rfl, h⟩
  go_wp2
  go_ret
  exact ⟨rfl, h⟩
set_option maxHeartbeats 4000000 in
set_option maxRecDepth 100000 in
theorem splitSeq1_comes (s : ByteArray) (hs : s.size ≤ 1000000) (b : Nat) (w0 : World) (h0 : StrBox w0 b s) (h1 : StrBox w0 (b + 1) ⟨#[10]⟩) (h2 : SaveBox w0 (b + 1 + 1)) :
    Comes (Zs b) Tryz.prog 90 #[.pointer (some ⟨b + 1, 0, none⟩), .pointer (some ⟨b, 0, none⟩), .pointer (some ⟨b + 1 + 1, 0, none⟩)] encz (Kp3 b) (after (s.size + 1) s) w0 := by
  intro lid J Jx W hW hJ hJx hY hJ0
  refine callsIn_of_wp Tryz.func90 rfl trivial ?_ rfl
  simp only [Tryz.ntmps90, List.size_toArray, List.length_cons, List.length_nil, Nat.reduceAdd, Nat.reduceSub, Array.replicate_succ, Array.replicate_zero, List.push_toArray, List.append_toArray, List.nil_append, List.cons_append]
  have z2 := (SaveBox.cell h2).2
  have g0 : StrBox W b s := (hW.block b (by omega)).trans h0
  have g1 : StrBox W (b + 1) ⟨#[10]⟩ := (hW.block (b + 1) (by omega)).trans h1
  have g2 : SaveBox W (b + 1 + 1) := (hW.block (b + 1 + 1) (by omega)).trans h2
  have zW := hW.size
  obtain ⟨c1, f1, _⟩ := g1.cell
  clear h0 h1 h2
  gi_wp2
  gi_loopw [7] (fun i wr => ∃ (k : Nat) (r : ByteArray) (pre : List ByteArray), r.size < k ∧ r.size ≤ 1000000 ∧ Hid (after (s.size + 1) s = pre ++ after k r) ∧ J pre wr ∧ StrBox wr b r ∧ StrBox wr (b + 1) ⟨#[10]⟩ ∧ SaveBox wr (b + 1 + 1) ∧ W.heap.size ≤ wr.heap.size)
    (fun _ wr => match wr.cell? ⟨b, 0, none⟩ with | some (.string r) => r.size | _ => 0)
  case atStart => exact ⟨s.size + 1, s, [], by omega, hs, rfl, hJ0, g0, g1, g2, Nat.le_refl _⟩
  case round =>
    clear g0 g1 g2 c1 f1 hJ0
    obtain ⟨k, r, pre, hrk, hr1, hxs, hJr, g0, g1, g2, zr⟩ := hrel
    obtain ⟨c0, f0, zb⟩ := g0.cell
    obtain ⟨c1, f1, _⟩ := g1.cell
    obtain ⟨c2, _⟩ := g2.cell
    obtain ⟨k, rfl⟩ : ∃ j, k = j + 1 := ⟨k - 1, by omega⟩
    have hix : ∀ W : World, CallsIn Fence.wide 0 Tryz.prog 92 #[.string r, .string ⟨#[10]⟩] W fun e w' => e = .returned (.int .i64 (Lib.indexByte r.data.toList 10)) ∧ w' = W := fun W => callsIn_wide.2 (Tryz.strings_Index_one r 10 W)
    have hge := Lib.indexByte_ge r.data.toList 10
    have hle : Lib.indexByte r.data.toList 10 < 0 ∨ Lib.indexByte r.data.toList 10 + 1 ≤ r.size := by
      rcases (by omega : Lib.indexByte r.data.toList 10 < 0 ∨ 0 ≤ Lib.indexByte r.data.toList 10) with h | h
      · exact .inl h
      · right
        have := Lib.index_room r.data.toList [10] (by rw [Lib.index_one]; exact h)
        rw [Lib.index_one, ← Lib.size_eq] at this
        exact this
    obtain ⟨n, hn⟩ : ∃ n, n = Lib.indexByte r.data.toList 10 := ⟨_, rfl⟩
    rw [← hn] at hix hge hle
    have hnH := Lib.hid hn
    clear hn
    rcases (by omega : n = -1 ∨ 0 ≤ n) with hn0 | hn0
    · subst hn0
      have hx2 : Hid (after (s.size + 1) s = pre ++ [r]) := hxs.out.trans (by rw [after_miss hnH.out.symm])
      obtain ⟨fn, tmps, assign, body, hy, hR⟩ := hY pre r wr hJr ⟨[], hx2.out⟩
      dsimp only [encz] at hy
      gi_wp2_with fail
      refine ⟨trivial, rfl, ?_⟩
      refine (hix _).mono ?_
      rintro e w' ⟨rfl, rfl⟩
      gi_wp2_with fail
      refine ⟨rfl, ?_⟩
      refine hR.mono ?_
      rintro e W2 (⟨rfl, hJ2, hK2⟩ | ⟨rfl, hJ2⟩)
      · gi_wp2
        go_end0
        exact ⟨⟨_, rfl⟩, .inl (by rw [hx2.out]; exact hJ2)⟩
      · gi_wp2
        go_end0
        exact ⟨⟨_, rfl⟩, .inr ⟨_, hJ2⟩⟩
    · obtain ⟨i, rfl⟩ : ∃ i : Nat, n = i := ⟨n.toNat, by omega⟩
      have hi : i + 1 ≤ r.size := by omega
      have hx2 : Hid (after (s.size + 1) s = pre ++ r.extract 0 (i + 1) :: after k (r.extract (i + 1) r.size)) := hxs.out.trans (by rw [after_hit hnH.out.symm])
      obtain ⟨fn, tmps, assign, body, hy, hR⟩ := hY pre (r.extract 0 (i + 1)) wr hJr ⟨_, hx2.out⟩
      dsimp only [encz] at hy
      have hsz2 : (r.extract (i + 1) r.size).size = r.size - (i + 1) := by simp
      have hdi : decide ((i : Int) < 0) = false := decide_eq_false (by omega)
      gi_wp2_with fail
      refine ⟨trivial, rfl, ?_⟩
      refine (hix _).mono ?_
      rintro e w' ⟨rfl, rfl⟩
      gi_wp2_with fail
      refine ⟨rfl, ?_⟩
      refine hR.mono ?_
      rintro e W2 (⟨rfl, hJ2, hK2⟩ | ⟨rfl, hJ2⟩)
      · have hwc := Lib.hid c0
        clear hy hR c0 f0 c1 f1 c2
        have g0' : StrBox W2 b r := (hK2.same b (by omega) (by omega)).trans g0
        have g1' : StrBox W2 (b + 1) ⟨#[10]⟩ := (hK2.same (b + 1) (by omega) (by omega)).trans g1
        have g2' : SaveBox W2 (b + 1 + 1) := (hK2.same (b + 1 + 1) (by omega) (by omega)).trans g2
        have z2' := hK2.size
        obtain ⟨c0, f0, zb2⟩ := g0'.cell
        obtain ⟨c1, f1, _⟩ := g1'.cell
        obtain ⟨c2, _⟩ := g2'.cell
        have hJ3 : J (pre ++ [r.extract 0 (i + 1)]) (W2.setCell ⟨b, 0, none⟩ (.string (r.extract (i + 1) r.size))) := hJ _ W2 _ (some b) hJ2 (o_set o_refl (.inl rfl)) (fun r' e => by cases e; exact ⟨_, g0', rfl, _, _, rfl⟩)
        have g03 := g0'.set (r.extract (i + 1) r.size)
        have g13 : StrBox (W2.setCell ⟨b, 0, none⟩ (.string (r.extract (i + 1) r.size))) (b + 1) ⟨#[10]⟩ := (Below.heap_setCell _ _ _ _ (by simp)).trans g1'
        have g23 : SaveBox (W2.setCell ⟨b, 0, none⟩ (.string (r.extract (i + 1) r.size))) (b + 1 + 1) := (Below.heap_setCell _ _ _ _ (by simp only; omega)).trans g2'
        have hx3 : Hid (after (s.size + 1) s = (pre ++ [r.extract 0 (i + 1)]) ++ after k (r.extract (i + 1) r.size)) := hx2.out.trans (by simp)
        clear hx2 g0 g1 g2 g0' g1' g2' hJ2 hK2 hJr hxs
        have hszH := Lib.hid hsz2
        clear hsz2
        gi_wp2
        go_roundw
        case rel => exact ⟨k, r.extract (i + 1) r.size, pre ++ [r.extract 0 (i + 1)], by rw [hszH.out]; omega, by rw [hszH.out]; omega, hx3, hJ3, g03, g13, g23, by simp [World.setCell]; omega⟩
        case measure => rw [g03.cell.1, hwc.out]; simp only; rw [hszH.out]; omega
      · gi_wp2
        refine bodyPost_ret (results_none rfl _ _ _) rfl ?_
        exact ⟨⟨_, rfl⟩, .inr ⟨_, hJ2⟩⟩
end Go.Proofs.YtbeapddadogfaaaGreatDoor
