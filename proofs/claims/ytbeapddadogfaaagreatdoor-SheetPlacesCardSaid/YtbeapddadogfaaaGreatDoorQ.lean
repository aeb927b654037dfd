/-
  A stone in a line of text: the program's stone.
-/
import Derived.Test.YtbeapddadogfaaaGreatDoorP
set_option linter.unusedVariables false
set_option linter.unusedSimpArgs false
namespace Go.Proofs.YtbeapddadogfaaaGreatDoor
open Go.RowKit
open Sheet

theorem past_back {P : Program} {f : FuncId} {args : Array Value} {w : World} {v : Value} (p : Past w) (h : Calls P f args p.W fun e w' => e = .returned v ∧ w' = p.W) :
    Calls P f args p.W fun e w'' => e = .returned v ∧ ∃ q : Past w, w'' = q.W := h.mono fun _ w' ⟨he, hb⟩ => ⟨he, p, hb⟩
/-- The pieces of a line. -/
def pieces (s : ByteArray) : List ByteArray := Lib.splitB ⟨#[32]⟩ 0 (Lib.countB s ⟨#[32]⟩) s
theorem pieces_data (s : ByteArray) : (pieces s).map (·.data.toList) = Lib.split s.data.toList [32] := Lib.splitB_data _ _ _ _
theorem pieces_len (s : ByteArray) : Lib.countB s ⟨#[32]⟩ + 1 = (pieces s).length := (Lib.splitB_all _ (by decide) 0 _ s rfl).symm
theorem Split_any (s : ByteArray) (hs : s.size ≤ 1000000) (w : World) (h : Env w) : Calls Tryz.prog 77 #[.string s, .string ⟨#[32]⟩] w fun e w' =>
    e = .returned (.slice (some ⟨w.heap.size, 0, none⟩) (pieces s).length (pieces s).length) ∧ w' = w.alloc (.cells ((pieces s).map Value.string).toArray 9) := by
  obtain ⟨m, hm⟩ := h.max
  have := Tryz.strings_Split s ⟨#[32]⟩ m w (by omega) hm (by decide)
  rw [pieces_len] at this
  exact this
theorem splitK_len (sep : List UInt8) (save : Nat) : ∀ (k : Nat) (s : List UInt8), ∀ q ∈ Lib.splitK sep save k s, q.length ≤ s.length
  | 0, s, q, h => by
    simp only [Lib.splitK, List.mem_singleton] at h
    rw [h]
    exact Nat.le_refl _
  | k + 1, s, q, h => by
    unfold Lib.splitK at h
    split at h
    · simp only [List.mem_singleton] at h
      rw [h]
      exact Nat.le_refl _
    · rcases List.mem_cons.1 h with h | h
      · rw [h]
        exact List.length_take_le' _ _
      · have := splitK_len sep save k _ q h
        rw [List.length_drop] at this
        omega
def StonePost (s : List UInt8) (w : World) (e : Ending) (w' : World) : Prop := ∃ x : Sn, e = .returned (.tuple #[sval x, .bool (stoneOf s).isSome]) ∧ (∀ y, stoneOf s = some y → x = y) ∧ Below w.heap.size w w'
theorem put4 {W : World} {g : Nat} {t : TypeId} {c0 c1 c2 c3 : Value} (h : W.heap[g]? = some (.cells #[c0, c1, c2, c3] t (0, 0))) (v0 v1 v2 v3 : Value) :
    ((((W.setCell ⟨g, 0, none⟩ v0).setCell ⟨g, 1, none⟩ v1).setCell ⟨g, 2, none⟩ v2).setCell ⟨g, 3, none⟩ v3).heap[g]? = some (.cells #[v0, v1, v2, v3] t (0, 0)) := by
  simp [World.setCell, Array.getElem?_modify, h]
set_option maxHeartbeats 2000000 in
theorem stone_any (s : ByteArray) (hs : s.size ≤ 1000000) (w : World) (h : Env w) : Calls Tryz.prog 51 #[.string s] w (StonePost s.data.toList w) := by
  have hsp := Lib.hid (fun W (hW : Below w.heap.size w W) => Split_any s hs W (h.below hW))
  have hpd := pieces_data s
  obtain ⟨ps, hps⟩ : ∃ ps, ps = pieces s := ⟨_, rfl⟩
  rw [← hps] at hsp hpd
  have hpl : ps.length ≤ 1000001 := by
    rw [hps, ← pieces_len]
    have := Lib.countB_le ⟨#[32]⟩ (by decide) s.size s (Nat.le_refl _)
    omega
  clear hps
  by_cases h3 : ps.length = 3
  · obtain ⟨p, x, y, rfl⟩ : ∃ p x y, ps = [p, x, y] := by
      match ps, h3 with
      | [a, b, c], _ => exact ⟨a, b, c, rfl⟩
    clear h3 hpl
    have hst : stoneOf s.data.toList = match p.data.toList with
        | [a, b] => (match numOf x.data.toList, numOf y.data.toList with
          | some vx, some vy => if 0 ≤ Lib.indexByte [114, 121] a ∧ 0 ≤ (b.toNat : Int) - 49 ∧ (b.toNat : Int) - 49 ≤ 7 then some ⟨Lib.indexByte [114, 121] a, (b.toNat : Int) - 49, vx, vy⟩ else none
          | _, _ => none)
        | _ => none := by
      unfold stoneOf
      rw [← hpd]
      rfl
    have hstH := Lib.hid hst
    have hsz : x.size ≤ s.size ∧ y.size ≤ s.size := by
      have hm : ∀ q ∈ Lib.split s.data.toList [32], q.length ≤ s.data.toList.length := splitK_len _ _ _ _
      rw [← hpd] at hm
      refine ⟨?_, ?_⟩
      · rw [Lib.size_eq x, Lib.size_eq s]
        exact hm _ (by simp)
      · rw [Lib.size_eq y, Lib.size_eq s]
        exact hm _ (by simp)
    clear hst hpd
    by_cases h2 : p.size = 2
    · obtain ⟨a, b, rfl⟩ : ∃ a b : UInt8, p = ⟨#[a, b]⟩ := by
        obtain ⟨⟨l⟩⟩ := p
        match l, h2 with
        | [a, b], _ => exact ⟨a, b, rfl⟩
      have hxi := Lib.hid (fun W (hW : Below w.heap.size w W) => integer_any x (by omega) W (h.below hW))
      have hyi := Lib.hid (fun W (hW : Below w.heap.size w W) => integer_any y (by omega) W (h.below hW))
      go_enter Tryz.func51, Tryz.ntmps51
      go_wp2_with fail
      refine (hsp.out _ (by (repeat (first | (with_reducible exact Below.refl _ _) | (with_reducible assumption) | (with_reducible refine b_alloc ?_) | (with_reducible refine b_drew ?_) | (with_reducible refine b_drewN ?_) | (with_reducible refine b_set ?_ (by first | (simp; done) | (dsimp only; omega))) | (with_reducible refine b_call ?_ (by assumption)))))).mono ?_
      rintro e w1 ⟨rfl, rfl⟩
      have hB4 : Below w.heap.size w ((w.alloc (.cells #[.int .i64 0, .int .i64 0, .int .i64 0, .int .i64 0] 53)).alloc (.cells #[.string ⟨#[a, b]⟩, .string x, .string y] 9)) := by (repeat (first | (with_reducible exact Below.refl _ _) | (with_reducible assumption) | (with_reducible refine b_alloc ?_) | (with_reducible refine b_drew ?_) | (with_reducible refine b_drewN ?_) | (with_reducible refine b_set ?_ (by first | (simp; done) | (dsimp only; omega))) | (with_reducible refine b_call ?_ (by assumption))))
      have c0 : ((w.alloc (.cells #[.int .i64 0, .int .i64 0, .int .i64 0, .int .i64 0] 53)).alloc (.cells #[.string ⟨#[a, b]⟩, .string x, .string y] 9)).cell? ⟨w.heap.size + 1, 0, none⟩ = some (.string ⟨#[a, b]⟩) := by simp [go_sem]
      have c1 : ((w.alloc (.cells #[.int .i64 0, .int .i64 0, .int .i64 0, .int .i64 0] 53)).alloc (.cells #[.string ⟨#[a, b]⟩, .string x, .string y] 9)).cell? ⟨w.heap.size + 1, 1, none⟩ = some (.string x) := by simp [go_sem]
      have c2 : ((w.alloc (.cells #[.int .i64 0, .int .i64 0, .int .i64 0, .int .i64 0] 53)).alloc (.cells #[.string ⟨#[a, b]⟩, .string x, .string y] 9)).cell? ⟨w.heap.size + 1, 2, none⟩ = some (.string y) := by simp [go_sem]
      have r0 : ((w.alloc (.cells #[.int .i64 0, .int .i64 0, .int .i64 0, .int .i64 0] 53)).alloc (.cells #[.string ⟨#[a, b]⟩, .string x, .string y] 9)).heap[w.heap.size]? = some (.cells #[.int .i64 0, .int .i64 0, .int .i64 0, .int .i64 0] 53) := (alloc_old _ _ (by simp)).trans (alloc_at _ _)
      have z4 : ((w.alloc (.cells #[.int .i64 0, .int .i64 0, .int .i64 0, .int .i64 0] 53)).alloc (.cells #[.string ⟨#[a, b]⟩, .string x, .string y] 9)).heap.size = w.heap.size + 1 + 1 := by simp
      go_wp2_with fail
      generalize ((w.alloc (.cells #[.int .i64 0, .int .i64 0, .int .i64 0, .int .i64 0] 53)).alloc (.cells #[.string ⟨#[a, b]⟩, .string x, .string y] 9)) = W4 at hB4 c0 c1 c2 r0 z4 ⊢
      have p0 : ∀ p : Past W4, p.W.cell? ⟨w.heap.size + 1, 0, none⟩ = some (.string ⟨#[a, b]⟩) := fun p => (past_cell p _ _ (by omega)).trans c0
      have hbl : b.toNat < 256 := b.toNat_lt
      have e0 : ∀ (h : 0 < (⟨#[a, b]⟩ : ByteArray).size), (((⟨#[a, b]⟩ : ByteArray)[0]'h).toNat) = a.toNat := fun _ => rfl
      have e1 : ∀ (h : 1 < (⟨#[a, b]⟩ : ByteArray).size), (((⟨#[a, b]⟩ : ByteArray)[1]'h).toNat) = b.toNat := fun _ => rfl
      have hw1 : wrap64 ((b.toNat : Int) - 49) = (b.toNat : Int) - 49 := by unfold wrap64; omega
      have hw2 : wrap64 (b.toNat : Int) = (b.toNat : Int) := by unfold wrap64; omega
      have hib : ∀ W : World, Calls Tryz.prog 78 #[.string ⟨#[114, 121]⟩, .int .u8 (a.toNat : Int)] W fun e w' => e = .returned (.int .i64 (Lib.indexByte [114, 121] a)) ∧ w' = W := fun W => by
        have := Tryz.strings_IndexByte ⟨#[114, 121]⟩ (a.toNat : Int) W
        rw [Lib.byte_back] at this
        exact this
      (refine wp_region_past (by kernel_rfl) (by kernel_rfl) ?_; (repeat (first | go_big_quiet_step ((go_at_call 78; exact past_back _ (hib _))) | quiet_step ((go_at_call 78; exact past_back _ (hib _))))); refine wpQuiet_nil ?_; intro wq hq)
      have hBq : Below w.heap.size w wq := b_call hB4 hq
      have d1 : wq.cell? ⟨w.heap.size + 1, 1, none⟩ = some (.string x) := (hq.cell (p := ⟨w.heap.size + 1, 1, none⟩) (by simp only; omega)).trans c1
      have d2 : wq.cell? ⟨w.heap.size + 1, 2, none⟩ = some (.string y) := (hq.cell (p := ⟨w.heap.size + 1, 2, none⟩) (by simp only; omega)).trans c2
      have r1 := (hq.block w.heap.size (by omega)).trans r0
      have zq : w.heap.size + 1 < wq.heap.size := by have := hq.size; omega
      obtain ⟨T, hT⟩ : ∃ T, T = Lib.indexByte [114, 121] a := ⟨_, rfl⟩
      have hstT : stoneOf s.data.toList = (match numOf x.data.toList, numOf y.data.toList with
          | some vx, some vy => if 0 ≤ Lib.indexByte [114, 121] a ∧ 0 ≤ (b.toNat : Int) - 49 ∧ (b.toNat : Int) - 49 ≤ 7 then some ⟨Lib.indexByte [114, 121] a, (b.toNat : Int) - 49, vx, vy⟩ else none
          | _, _ => none) := hstH.out
      rw [← hT] at hstT ⊢
      have hstH2 := Lib.hid hstT
      have hTr : -1 ≤ T ∧ T ≤ 1 := by rw [hT, byte_ry]; split <;> (try split) <;> omega
      obtain ⟨N, hN⟩ : ∃ N, N = (b.toNat : Int) - 49 := ⟨_, rfl⟩
      clear hT hstT hstH hib hw1 hw2 e0 e1 p0 c0 c1 c2 r0 hq hB4
      go_wp2_with fail
      refine (hxi.out wq hBq).mono ?_
      rintro e w5 ⟨vx, rfl, hvx, hb5⟩
      have d2' := (hb5.cell (p := ⟨w.heap.size + 1, 2, none⟩) (by simp only; omega)).trans d2
      have r2 := (hb5.block w.heap.size (by omega)).trans r1
      have hvxH := Lib.hid hvx
      have z5 := hb5.size
      clear hvx d1 d2 r1
      go_wp2_with fail
      refine (hyi.out w5 (b_call hBq hb5)).mono ?_
      rintro e w6 ⟨vy, rfl, hvy, hb6⟩
      have r3 := (hb6.block w.heap.size (by omega)).trans r2
      have hB6 : Below w.heap.size w w6 := b_call (b_call hBq hb5) hb6
      have z6 := hb6.size
      have hvyH := Lib.hid hvy
      clear hvy d2' r2 hb5 hb6
      have k0 : w6.cell? ⟨w.heap.size, 0, none⟩ = some (.int .i64 0) := by simp [World.cell?, r3]
      have k1 : w6.cell? ⟨w.heap.size, 1, none⟩ = some (.int .i64 0) := by simp [World.cell?, r3]
      have k2 : w6.cell? ⟨w.heap.size, 2, none⟩ = some (.int .i64 0) := by simp [World.cell?, r3]
      have k3 : w6.cell? ⟨w.heap.size, 3, none⟩ = some (.int .i64 0) := by simp [World.cell?, r3]
      have kf : ∀ o, w6.frozen? ⟨w.heap.size, o, none⟩ = false := fun o => by simp [World.frozen?, r3]
      cases hnx : numOf x.data.toList with
      | none =>
        have hno : Hid (stoneOf s.data.toList = none) := hstH2.out.trans (by rw [hnx])
        rw [show (none : Option Int).isSome = false from rfl]
        have r3H := Lib.hid r3
        clear r3
        go_wp2
        have hp := put4 r3H.out (.int .i64 T) (.int .i64 ((b.toNat : Int) - 49)) (.int .i64 vx) (.int .i64 vy)
        have hB7 : Below w.heap.size w ((((w6.setCell ⟨w.heap.size, 0, none⟩ (.int .i64 T)).setCell ⟨w.heap.size, 1, none⟩ (.int .i64 ((b.toNat : Int) - 49))).setCell ⟨w.heap.size, 2, none⟩ (.int .i64 vx)).setCell ⟨w.heap.size, 3, none⟩ (.int .i64 vy)) :=
          (((hB6.setCell (p := ⟨w.heap.size, 0, none⟩) (by simp) _).setCell (p := ⟨w.heap.size, 1, none⟩) (by simp) _).setCell (p := ⟨w.heap.size, 2, none⟩) (by simp) _).setCell (p := ⟨w.heap.size, 3, none⟩) (by simp) _
        generalize ((((w6.setCell ⟨w.heap.size, 0, none⟩ (.int .i64 T)).setCell ⟨w.heap.size, 1, none⟩ (.int .i64 ((b.toNat : Int) - 49))).setCell ⟨w.heap.size, 2, none⟩ (.int .i64 vx)).setCell ⟨w.heap.size, 3, none⟩ (.int .i64 vy)) = W7 at hp hB7 ⊢
        have q0 : W7.cell? ⟨w.heap.size, 0, none⟩ = some (.int .i64 T) := by simp [World.cell?, hp]
        have q1 : W7.cell? ⟨w.heap.size, 1, none⟩ = some (.int .i64 ((b.toNat : Int) - 49)) := by simp [World.cell?, hp]
        have q2 : W7.cell? ⟨w.heap.size, 2, none⟩ = some (.int .i64 vx) := by simp [World.cell?, hp]
        have q3 : W7.cell? ⟨w.heap.size, 3, none⟩ = some (.int .i64 vy) := by simp [World.cell?, hp]
        refine bodyPost_ret (v := .tuple #[sval ⟨T, (b.toNat : Int) - 49, vx, vy⟩, .bool false]) (by simp [results, Tryz.results51, go_sem, q0, q1, q2, q3]) rfl ⟨⟨T, (b.toNat : Int) - 49, vx, vy⟩, by rw [hno.out]; rfl, (fun y hy => by rw [hno.out] at hy; cases hy), hB7⟩
      | some ux =>
        cases hny : numOf y.data.toList with
        | none =>
          have hno : Hid (stoneOf s.data.toList = none) := hstH2.out.trans (by rw [hnx, hny])
          rw [show (some ux : Option Int).isSome = true from rfl, show (none : Option Int).isSome = false from rfl]
          have r3H := Lib.hid r3
          clear r3
          go_wp2
          have hp := put4 r3H.out (.int .i64 T) (.int .i64 ((b.toNat : Int) - 49)) (.int .i64 vx) (.int .i64 vy)
          have hB7 : Below w.heap.size w ((((w6.setCell ⟨w.heap.size, 0, none⟩ (.int .i64 T)).setCell ⟨w.heap.size, 1, none⟩ (.int .i64 ((b.toNat : Int) - 49))).setCell ⟨w.heap.size, 2, none⟩ (.int .i64 vx)).setCell ⟨w.heap.size, 3, none⟩ (.int .i64 vy)) :=
            (((hB6.setCell (p := ⟨w.heap.size, 0, none⟩) (by simp) _).setCell (p := ⟨w.heap.size, 1, none⟩) (by simp) _).setCell (p := ⟨w.heap.size, 2, none⟩) (by simp) _).setCell (p := ⟨w.heap.size, 3, none⟩) (by simp) _
          generalize ((((w6.setCell ⟨w.heap.size, 0, none⟩ (.int .i64 T)).setCell ⟨w.heap.size, 1, none⟩ (.int .i64 ((b.toNat : Int) - 49))).setCell ⟨w.heap.size, 2, none⟩ (.int .i64 vx)).setCell ⟨w.heap.size, 3, none⟩ (.int .i64 vy)) = W7 at hp hB7 ⊢
          have q0 : W7.cell? ⟨w.heap.size, 0, none⟩ = some (.int .i64 T) := by simp [World.cell?, hp]
          have q1 : W7.cell? ⟨w.heap.size, 1, none⟩ = some (.int .i64 ((b.toNat : Int) - 49)) := by simp [World.cell?, hp]
          have q2 : W7.cell? ⟨w.heap.size, 2, none⟩ = some (.int .i64 vx) := by simp [World.cell?, hp]
          have q3 : W7.cell? ⟨w.heap.size, 3, none⟩ = some (.int .i64 vy) := by simp [World.cell?, hp]
          refine bodyPost_ret (v := .tuple #[sval ⟨T, (b.toNat : Int) - 49, vx, vy⟩, .bool false]) (by simp [results, Tryz.results51, go_sem, q0, q1, q2, q3]) rfl ⟨⟨T, (b.toNat : Int) - 49, vx, vy⟩, by rw [hno.out]; rfl, (fun y hy => by rw [hno.out] at hy; cases hy), hB7⟩
        | some uy =>
          rw [show (some ux : Option Int).isSome = true from rfl, show (some uy : Option Int).isSome = true from rfl]
          have r3H := Lib.hid r3
          have hst3 : Hid (stoneOf s.data.toList = if 0 ≤ T ∧ 0 ≤ (b.toNat : Int) - 49 ∧ (b.toNat : Int) - 49 ≤ 7 then some ⟨T, (b.toNat : Int) - 49, ux, uy⟩ else none) := hstH2.out.trans (by rw [hnx, hny])
          have hex : vx = ux := hvxH.out ux hnx
          have hey : vy = uy := hvyH.out uy hny
          clear r3 hnx hny hstH2 hvxH hvyH
          subst hex
          subst hey
          rcases (by omega : T < 0 ∨ 0 ≤ T) with t0 | t0
          · have hno : Hid (stoneOf s.data.toList = none) := hst3.out.trans (if_neg (by omega))
            have hdt : decide (0 ≤ T) = false := decide_eq_false (by omega)
            go_wp2
            have hp := put4 r3H.out (.int .i64 T) (.int .i64 ((b.toNat : Int) - 49)) (.int .i64 vx) (.int .i64 vy)
            have hB7 : Below w.heap.size w ((((w6.setCell ⟨w.heap.size, 0, none⟩ (.int .i64 T)).setCell ⟨w.heap.size, 1, none⟩ (.int .i64 ((b.toNat : Int) - 49))).setCell ⟨w.heap.size, 2, none⟩ (.int .i64 vx)).setCell ⟨w.heap.size, 3, none⟩ (.int .i64 vy)) :=
              (((hB6.setCell (p := ⟨w.heap.size, 0, none⟩) (by simp) _).setCell (p := ⟨w.heap.size, 1, none⟩) (by simp) _).setCell (p := ⟨w.heap.size, 2, none⟩) (by simp) _).setCell (p := ⟨w.heap.size, 3, none⟩) (by simp) _
            generalize ((((w6.setCell ⟨w.heap.size, 0, none⟩ (.int .i64 T)).setCell ⟨w.heap.size, 1, none⟩ (.int .i64 ((b.toNat : Int) - 49))).setCell ⟨w.heap.size, 2, none⟩ (.int .i64 vx)).setCell ⟨w.heap.size, 3, none⟩ (.int .i64 vy)) = W7 at hp hB7 ⊢
            have q0 : W7.cell? ⟨w.heap.size, 0, none⟩ = some (.int .i64 T) := by simp [World.cell?, hp]
            have q1 : W7.cell? ⟨w.heap.size, 1, none⟩ = some (.int .i64 ((b.toNat : Int) - 49)) := by simp [World.cell?, hp]
            have q2 : W7.cell? ⟨w.heap.size, 2, none⟩ = some (.int .i64 vx) := by simp [World.cell?, hp]
            have q3 : W7.cell? ⟨w.heap.size, 3, none⟩ = some (.int .i64 vy) := by simp [World.cell?, hp]
            refine bodyPost_ret (v := .tuple #[sval ⟨T, (b.toNat : Int) - 49, vx, vy⟩, .bool false]) (by simp [results, Tryz.results51, go_sem, q0, q1, q2, q3]) rfl ⟨⟨T, (b.toNat : Int) - 49, vx, vy⟩, by rw [hno.out]; rfl, (fun y hy => by rw [hno.out] at hy; cases hy), hB7⟩
          · have hdt : decide (0 ≤ T) = true := decide_eq_true t0
            cases hwi : wi ((b.toNat : Int) - 49) 0 7 with
            | false =>
              have hno : Hid (stoneOf s.data.toList = none) := hst3.out.trans (if_neg (by unfold wi at hwi; have := of_decide_eq_false hwi; omega))
              go_wp2_with (go_at_call 63; refine (withini_any _ _ _ _).mono ?_; rintro e w' ⟨rfl, rfl⟩)
              have hp := put4 r3H.out (.int .i64 T) (.int .i64 ((b.toNat : Int) - 49)) (.int .i64 vx) (.int .i64 vy)
              have hB7 : Below w.heap.size w ((((w6.setCell ⟨w.heap.size, 0, none⟩ (.int .i64 T)).setCell ⟨w.heap.size, 1, none⟩ (.int .i64 ((b.toNat : Int) - 49))).setCell ⟨w.heap.size, 2, none⟩ (.int .i64 vx)).setCell ⟨w.heap.size, 3, none⟩ (.int .i64 vy)) :=
                (((hB6.setCell (p := ⟨w.heap.size, 0, none⟩) (by simp) _).setCell (p := ⟨w.heap.size, 1, none⟩) (by simp) _).setCell (p := ⟨w.heap.size, 2, none⟩) (by simp) _).setCell (p := ⟨w.heap.size, 3, none⟩) (by simp) _
              generalize ((((w6.setCell ⟨w.heap.size, 0, none⟩ (.int .i64 T)).setCell ⟨w.heap.size, 1, none⟩ (.int .i64 ((b.toNat : Int) - 49))).setCell ⟨w.heap.size, 2, none⟩ (.int .i64 vx)).setCell ⟨w.heap.size, 3, none⟩ (.int .i64 vy)) = W7 at hp hB7 ⊢
              have q0 : W7.cell? ⟨w.heap.size, 0, none⟩ = some (.int .i64 T) := by simp [World.cell?, hp]
              have q1 : W7.cell? ⟨w.heap.size, 1, none⟩ = some (.int .i64 ((b.toNat : Int) - 49)) := by simp [World.cell?, hp]
              have q2 : W7.cell? ⟨w.heap.size, 2, none⟩ = some (.int .i64 vx) := by simp [World.cell?, hp]
              have q3 : W7.cell? ⟨w.heap.size, 3, none⟩ = some (.int .i64 vy) := by simp [World.cell?, hp]
              refine bodyPost_ret (v := .tuple #[sval ⟨T, (b.toNat : Int) - 49, vx, vy⟩, .bool false]) (by simp [results, Tryz.results51, go_sem, q0, q1, q2, q3]) rfl ⟨⟨T, (b.toNat : Int) - 49, vx, vy⟩, by rw [hno.out]; rfl, (fun y hy => by rw [hno.out] at hy; cases hy), hB7⟩
            | true =>
              have hyes : Hid (stoneOf s.data.toList = some ⟨T, (b.toNat : Int) - 49, vx, vy⟩) := hst3.out.trans (if_pos (by unfold wi at hwi; have := of_decide_eq_true hwi; omega))
              go_wp2_with (go_at_call 63; refine (withini_any _ _ _ _).mono ?_; rintro e w' ⟨rfl, rfl⟩)
              have hp := put4 r3H.out (.int .i64 T) (.int .i64 ((b.toNat : Int) - 49)) (.int .i64 vx) (.int .i64 vy)
              have hB7 : Below w.heap.size w ((((w6.setCell ⟨w.heap.size, 0, none⟩ (.int .i64 T)).setCell ⟨w.heap.size, 1, none⟩ (.int .i64 ((b.toNat : Int) - 49))).setCell ⟨w.heap.size, 2, none⟩ (.int .i64 vx)).setCell ⟨w.heap.size, 3, none⟩ (.int .i64 vy)) :=
                (((hB6.setCell (p := ⟨w.heap.size, 0, none⟩) (by simp) _).setCell (p := ⟨w.heap.size, 1, none⟩) (by simp) _).setCell (p := ⟨w.heap.size, 2, none⟩) (by simp) _).setCell (p := ⟨w.heap.size, 3, none⟩) (by simp) _
              generalize ((((w6.setCell ⟨w.heap.size, 0, none⟩ (.int .i64 T)).setCell ⟨w.heap.size, 1, none⟩ (.int .i64 ((b.toNat : Int) - 49))).setCell ⟨w.heap.size, 2, none⟩ (.int .i64 vx)).setCell ⟨w.heap.size, 3, none⟩ (.int .i64 vy)) = W7 at hp hB7 ⊢
              have q0 : W7.cell? ⟨w.heap.size, 0, none⟩ = some (.int .i64 T) := by simp [World.cell?, hp]
              have q1 : W7.cell? ⟨w.heap.size, 1, none⟩ = some (.int .i64 ((b.toNat : Int) - 49)) := by simp [World.cell?, hp]
              have q2 : W7.cell? ⟨w.heap.size, 2, none⟩ = some (.int .i64 vx) := by simp [World.cell?, hp]
              have q3 : W7.cell? ⟨w.heap.size, 3, none⟩ = some (.int .i64 vy) := by simp [World.cell?, hp]
              refine bodyPost_ret (v := .tuple #[sval ⟨T, (b.toNat : Int) - 49, vx, vy⟩, .bool true]) (by simp [results, Tryz.results51, go_sem, q0, q1, q2, q3]) rfl ⟨⟨T, (b.toNat : Int) - 49, vx, vy⟩, by rw [hyes.out]; rfl, (fun y hy => by rw [hyes.out] at hy; exact Option.some.inj hy), hB7⟩
    · have hno : Hid (stoneOf s.data.toList = none) := hstH.out.trans (by
        have hl : p.data.toList.length ≠ 2 := by rw [← Lib.size_eq]; exact h2
        split
        · rename_i a b e
          rw [e] at hl
          exact absurd rfl hl
        · rfl)
      have hne : (((p.size : Nat) : Int) != 2) = true := by simp; omega
      go_enter Tryz.func51, Tryz.ntmps51
      go_wp2_with fail
      refine (hsp.out _ (by (repeat (first | (with_reducible exact Below.refl _ _) | (with_reducible assumption) | (with_reducible refine b_alloc ?_) | (with_reducible refine b_drew ?_) | (with_reducible refine b_drewN ?_) | (with_reducible refine b_set ?_ (by first | (simp; done) | (dsimp only; omega))) | (with_reducible refine b_call ?_ (by assumption)))))).mono ?_
      rintro e w1 ⟨rfl, rfl⟩
      go_wp2
      refine bodyPost_ret (v := .tuple #[sval Sheet.zero, .bool false]) (by simp [results, Tryz.results51, go_sem, Sheet.zero]) rfl ⟨Sheet.zero, by rw [hno.out]; rfl, (fun y hy => by rw [hno.out] at hy; cases hy), by (repeat (first | (with_reducible exact Below.refl _ _) | (with_reducible assumption) | (with_reducible refine b_alloc ?_) | (with_reducible refine b_drew ?_) | (with_reducible refine b_drewN ?_) | (with_reducible refine b_set ?_ (by first | (simp; done) | (dsimp only; omega))) | (with_reducible refine b_call ?_ (by assumption))))⟩
  · have hno : Hid (stoneOf s.data.toList = none) := by
      show stoneOf _ = none
      unfold stoneOf
      rw [← hpd]
      match ps, h3 with
      | [], _ => rfl
      | [a], _ => rfl
      | [a, b], _ => rfl
      | [a, b, c], h => exact absurd rfl h
      | a :: b :: c :: d :: r, _ => rfl
    have hne : (((ps.length : Nat) : Int) != 3) = true := by simp; omega
    clear hpd
    go_enter Tryz.func51, Tryz.ntmps51
    go_wp2_with fail
    refine (hsp.out _ (by (repeat (first | (with_reducible exact Below.refl _ _) | (with_reducible assumption) | (with_reducible refine b_alloc ?_) | (with_reducible refine b_drew ?_) | (with_reducible refine b_drewN ?_) | (with_reducible refine b_set ?_ (by first | (simp; done) | (dsimp only; omega))) | (with_reducible refine b_call ?_ (by assumption)))))).mono ?_
    rintro e w1 ⟨rfl, rfl⟩
    go_wp2
    refine bodyPost_ret (v := .tuple #[sval Sheet.zero, .bool false]) (by simp [results, Tryz.results51, go_sem, Sheet.zero]) rfl ⟨Sheet.zero, by rw [hno.out]; rfl, (fun y hy => by rw [hno.out] at hy; cases hy), by (repeat (first | (with_reducible exact Below.refl _ _) | (with_reducible assumption) | (with_reducible refine b_alloc ?_) | (with_reducible refine b_drew ?_) | (with_reducible refine b_drewN ?_) | (with_reducible refine b_set ?_ (by first | (simp; done) | (dsimp only; omega))) | (with_reducible refine b_call ?_ (by assumption))))⟩
end Go.Proofs.YtbeapddadogfaaaGreatDoor
