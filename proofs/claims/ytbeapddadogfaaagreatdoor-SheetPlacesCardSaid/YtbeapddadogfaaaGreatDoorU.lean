/-
  Print of the program.
-/
import Derived.Deep.RegionHeld3
import Derived.Shelf.Strings.BuilderK
import Derived.Test.YtbeapddadogfaaaGreatDoorH
import Derived.Test.YtbeapddadogfaaaGreatDoorP
set_option linter.unusedVariables false
set_option linter.unusedSimpArgs false
namespace Go.Proofs.YtbeapddadogfaaaGreatDoor
open Go.RowKit Sheet

theorem WriteByte_k (B b : Nat) (bs : List Value) (c : Int) (w : World) (h : Lib.IsBuilderF 66 5 B b bs w) (hlen : bs.length + 1 ≤ 140737488355328) (hBw : B ≤ w.heap.size) :
    Calls Tryz.prog 43 #[.pointer (some ⟨b, 0, none⟩), .int .u8 c] w fun e w' => e = .returned .nilIface ∧ (Lib.BuilderAtF 66 5 B b (.pointer (some ⟨b, 0, none⟩)) (bs ++ [.int .u8 c]) w' ∧ Below B w w' ∧ Lib.OthersKept 5 (some b) w w') :=
  Any.Builder_WriteByte_k Tryz.laysB167 Tryz.Builder_Extra_B B b bs c w h hlen hBw
theorem WriteString_k (B b : Nat) (bs : List Value) (s : ByteArray) (w : World) (h : Lib.IsBuilderF 66 5 B b bs w) (hlen : bs.length + s.size ≤ 140737488355328) (hBw : B ≤ w.heap.size) :
    Calls Tryz.prog 44 #[.pointer (some ⟨b, 0, none⟩), .string s] w fun e w' => e = .returned (.tuple #[.int .i64 s.size, .nilIface]) ∧ (Lib.BuilderAtF 66 5 B b (.pointer (some ⟨b, 0, none⟩)) (bs ++ Lib.strCells s) w' ∧ Below B w w' ∧ Lib.OthersKept 5 (some b) w w') :=
  Any.Builder_WriteString_k Tryz.laysB166 Tryz.Builder_Extra_B B b bs s w h hlen hBw
theorem String_k (B b : Nat) (l : List UInt8) (w : World) (h : Lib.IsBuilderF 66 5 B b (Lib.byteCells l) w) (hBw : B ≤ w.heap.size) :
    Calls Tryz.prog 47 #[.pointer (some ⟨b, 0, none⟩)] w fun e w' => e = .returned (.string ⟨l.toArray⟩) ∧ (Lib.IsBuilderF 66 5 B b (Lib.byteCells l) w' ∧ Below B w w' ∧ Lib.OthersKept 5 (some b) w w') :=
  Any.Builder_String_any_k Tryz.lays169 Tryz.Builder_Extra_169 B b l w h hBw
theorem builder_below {B b : Nat} {bs : List Value} {w W : World} (h : Lib.IsBuilderF 66 5 B b bs w) (hb : Below w.heap.size w W) : Lib.IsBuilderF 66 5 B b bs W := by
  have key : ∀ p, Lib.BuilderAtF 66 5 B b p bs w → Lib.BuilderAtF 66 5 B b p bs W := by
    rintro p ⟨hB, v, hc, hown, hne⟩
    refine ⟨hB, v, (hb.block b (Array.getElem?_eq_some_iff.1 hc).1).trans hc, hown.kept (row := none) ⟨hb.os, hb.tape, hb.output, hb.size, fun i hi _ => hb.block i hi⟩ ?_, hne⟩
    cases v.ownBlock with
    | none => exact .inl rfl
    | some g => exact .inr (by simp)
  exact h.elim (fun x => .inl (key _ x)) (fun x => .inr (key _ x))
theorem ba_app (a b : List UInt8) : ((⟨a.toArray⟩ : ByteArray) ++ ⟨b.toArray⟩) = ⟨(a ++ b).toArray⟩ := by
  apply ByteArray.ext
  simp
abbrev tval' (c : List UInt8) : ByteArray := ⟨c.toArray⟩
theorem sz_arr (l : List UInt8) : (⟨l.toArray⟩ : ByteArray).size = l.length := by rw [Lib.size_eq]
theorem line_cells (a b c : List UInt8) : Lib.strCells (((((tval' a ++ (⟨#[32]⟩ : ByteArray)) ++ tval' b) ++ (⟨#[32]⟩ : ByteArray)) ++ tval' c) ++ (⟨#[10]⟩ : ByteArray)) = Lib.byteCells (a ++ 32 :: (b ++ 32 :: (c ++ [10]))) := by
  rw [Lib.strCells_eq]
  simp [tval']
theorem line_size (a b c : List UInt8) : (((((tval' a ++ (⟨#[32]⟩ : ByteArray)) ++ tval' b) ++ (⟨#[32]⟩ : ByteArray)) ++ tval' c) ++ (⟨#[10]⟩ : ByteArray)).size = a.length + b.length + c.length + 3 := by
  rw [Lib.size_eq]
  simp [tval']
  omega
theorem Itoa_any (v : Int) (h0 : 0 ≤ v) (h1 : v < 100) (w : World) : Calls Tryz.prog 45 #[.int .i64 v] w fun e w' => e = .returned (tval (Lib.itoa v)) ∧ w' = w := by
  obtain ⟨u, rfl⟩ : ∃ u : Nat, v = (u : Int) := ⟨v.toNat, by omega⟩
  rw [Lib.itoa_nonneg]
  exact Tryz.strconv_Itoa_small u (by omega) w
/-- Where a stone lies in a block of its own. -/
def SnBox (w : World) (g : Nat) (s : Sn) : Prop := w.heap[g]? = some (.cells #[.int .i64 s.team, .int .i64 s.n, .int .i64 s.x, .int .i64 s.y] 53 (0, 0))
theorem SnBox.cells {w : World} {g : Nat} {s : Sn} (h : SnBox w g s) : w.cell? ⟨g, 0, none⟩ = some (.int .i64 s.team) ∧ w.cell? ⟨g, 1, none⟩ = some (.int .i64 s.n) ∧ w.cell? ⟨g, 2, none⟩ = some (.int .i64 s.x) ∧ w.cell? ⟨g, 3, none⟩ = some (.int .i64 s.y) ∧ g < w.heap.size := by
  unfold SnBox at h
  exact ⟨by simp [World.cell?, h], by simp [World.cell?, h], by simp [World.cell?, h], by simp [World.cell?, h], (Array.getElem?_eq_some_iff.1 h).1⟩
theorem SnBox.kept {w W : World} {g b : Nat} {s : Sn} (h : SnBox w g s) (hk : Lib.OthersKept 5 (some b) w W) (hb : g ≠ b) : SnBox W g s := hk g _ h (by simpa using hb) (by intro c fz e; cases e)
theorem SnBox.below {w W : World} {g : Nat} {s : Sn} (h : SnBox w g s) (hk : Below w.heap.size w W) : SnBox W g s := (hk.block g (Array.getElem?_eq_some_iff.1 h).1).trans h
theorem text_take (l : List Sn) (k : Nat) (s : Sn) (h : l[k]? = some s) : textOf (l.take (k + 1)) = textOf (l.take k) ++ lineOf s := by
  rw [List.take_add_one, h]
  simp [textOf]
theorem print_bad {l : List Sn} (h : check l = false) : print l = ([], 2) := by unfold print; rw [h]; rfl
theorem print_good {l : List Sn} (h : check l = true) : print l = (textOf l, 0) := by unfold print; rw [if_pos h]
theorem itoa_len (v : Int) (hv : v.natAbs < 10 ^ 18) : (Lib.itoa v).length ≤ 19 := by
  rcases (by omega : v < 0 ∨ 0 ≤ v) with h0 | h0
  · obtain ⟨u, rfl⟩ : ∃ u : Nat, v = -(u : Int) := ⟨v.natAbs, by omega⟩
    rw [Lib.itoa_neg u (by omega)]
    have := (digits_length u).2 (by omega)
    simp; omega
  · obtain ⟨u, rfl⟩ : ∃ u : Nat, v = (u : Int) := ⟨v.toNat, by omega⟩
    rw [Lib.itoa_nonneg]
    have := (digits_length u).2 (by omega)
    omega
set_option maxHeartbeats 4000000 in
set_option maxRecDepth 100000 in
theorem Print_any (A : Option Addr) (cap : Nat) (l : List Sn) (w : World) (hS : Stones w A l) (hcap : l.length ≤ cap) (hc63 : cap ≤ 9223372036854775807) (hE : Env w) :
    Calls Tryz.prog 13 #[.slice A l.length cap] w fun e w' => e = .returned (.tuple #[tval (print l).1, .int .i64 (print l).2]) ∧ Below w.heap.size w w' := by
  have hchk := Lib.hid (Check_any A cap l w hS hcap hc63)
  cases hc : check l with
  | false =>
    have hp := Lib.hid (print_bad hc)
    rw [hc] at hchk
    go_enter Tryz.func13, Tryz.ntmps13
    go_wp2_with (go_at_call 28; refine hchk.out.mono ?_; rintro e w1 ⟨rfl, hb1⟩)
    exact bodyPost_ret (v := .tuple #[.string ⟨#[]⟩, .int .i64 2]) (by simp [results, Tryz.results13, go_sem]) rfl ⟨by rw [hp.out], hb1⟩
  | true =>
    have hp := Lib.hid (print_good hc)
    obtain ⟨h16, hok⟩ := check_ok hc
    have hokH := Lib.hid hok
    have hlenH := Lib.hid (text_len l hok)
    rw [hc] at hchk
    clear hok hc
    go_enter Tryz.func13, Tryz.ntmps13
    go_wp2_with (go_at_call 28; refine hchk.out.mono ?_; rintro e w1 ⟨rfl, hb1⟩)
    have hz1 := hb1.size
    have hS1 := hS.below hb1
    have hE1 := hE.below hb1
    have hI0 : Lib.IsBuilderF 66 5 w1.heap.size w1.heap.size (Lib.byteCells []) (w1.alloc (.cells #[.pointer none, .slice none 0 0] 66 (0, 0))) := Lib.IsBuilderF.of (Lib.fresh_isBuilder 66 5 w1)
    clear hchk hS
    go_loopw [12] (fun i wr => ∃ k : Nat, k ≤ l.length ∧ i = .int .i64 k ∧ Lib.IsBuilderF 66 5 w1.heap.size w1.heap.size (Lib.byteCells (textOf (l.take k))) wr ∧ Below w1.heap.size w1 wr ∧ w1.heap.size < wr.heap.size)
      (fun i _ => l.length - (intOf i).toNat)
    case atStart => exact ⟨0, by omega, rfl, hI0, by (repeat (first | (with_reducible exact Below.refl _ _) | (with_reducible assumption) | (with_reducible refine b_alloc ?_) | (with_reducible refine b_drew ?_) | (with_reducible refine b_drewN ?_) | (with_reducible refine b_set ?_ (by first | (simp; done) | (dsimp only; omega))) | (with_reducible refine b_call ?_ (by assumption)))), by simp⟩
    case round =>
      obtain ⟨k, hk, rfl, hI, hb, hzr⟩ := hrel
      by_cases hlt : k < l.length
      · obtain ⟨ad, s, rfl, hadb, hs, c0, c1, c2, c3⟩ := (hS1.below hb).at_ hlt
        have hsH := Lib.hid hs
        have hbd := ok_bounds (hokH.out s (List.mem_of_getElem? hs))
        have htx := Lib.hid (text_take l k s hs)
        have hTk : Hid ((Lib.byteCells (textOf (l.take k))).length ≤ 768) := by
          show (Lib.byteCells (textOf (l.take k))).length ≤ 768
          rw [Lib.byteCells_length]
          have := (text_len (l.take k) (fun x hx => hokH.out x (List.mem_of_mem_take hx))).1
          simp at this
          omega
        clear hS1 hs
        obtain ⟨st, sn, sx, sy⟩ := s
        simp only at c0 c1 c2 c3 hbd
        obtain ⟨ht, hn0, hn7, hx1, hx2, hy1, hy2⟩ := hbd
        have hlens : Hid ((Lib.itoa (sn + 1)).length ≤ 19 ∧ (Lib.itoa sx).length ≤ 19 ∧ (Lib.itoa sy).length ≤ 19) := ⟨itoa_len _ (by omega), itoa_len _ (by omega), itoa_len _ (by omega)⟩
        rcases ht with rfl | rfl
        · go_wp2_with (go_at_call 43; refine (WriteByte_k _ _ _ _ _ (hI.alloc _) (by have := hTk.out; omega) (by simp; omega)).mono ?_; rintro e w7 ⟨rfl, hA7, hb7, ho7⟩)
          have hI7 : Hid (Lib.IsBuilderF 66 5 w1.heap.size w1.heap.size (Lib.byteCells (textOf (l.take k) ++ [114])) w7) := .inr (by rw [Lib.byteCells_append]; exact hA7)
          have hx7 : SnBox w7 wr.heap.size ⟨0, sn, sx, sy⟩ := SnBox.kept (w := wr.alloc (.cells #[.int .i64 0, .int .i64 sn, .int .i64 sx, .int .i64 sy] 53 (0, 0))) (alloc_at wr _) ho7 (by omega)
          have hz7 := hb7.size
          simp at hz7
          have hB7 : Below w.heap.size w w7 := (b_alloc (b_call hb1 hb)).trans ⟨hb7.os, hb7.tape, hb7.output, hb7.size, fun i hi => hb7.block i (by omega)⟩
          have hB17 : Hid (Below w1.heap.size w1 w7) := (b_alloc hb).trans hb7
          obtain ⟨d0, d1, d2, d3, dz⟩ := hx7.cells
          have hx7H := Lib.hid hx7
          have hkeep : Hid (∀ W, Below w7.heap.size w7 W → (∀ o, W.cell? ⟨wr.heap.size, o, none⟩ = w7.cell? ⟨wr.heap.size, o, none⟩) ∧ Below w.heap.size w W) := fun W h => ⟨fun o => h.cell (p := ⟨wr.heap.size, o, none⟩) dz, b_call hB7 h⟩
          have hcon : Hid (∀ W, Below w7.heap.size w7 W → Calls Tryz.prog 44 #[.pointer (some ⟨w1.heap.size, 0, none⟩), .string (((((tval' (Lib.itoa (sn + 1)) ++ (⟨#[32]⟩ : ByteArray)) ++ tval' (Lib.itoa sx)) ++ (⟨#[32]⟩ : ByteArray)) ++ tval' (Lib.itoa sy)) ++ (⟨#[10]⟩ : ByteArray))] W fun e w' => ∃ v, e = .returned v ∧ Lib.IsBuilderF 66 5 w1.heap.size w1.heap.size (Lib.byteCells (textOf (l.take (k + 1)))) w' ∧ Below w1.heap.size w1 w' ∧ w1.heap.size < w'.heap.size ∧ ((∀ o, w'.cell? ⟨wr.heap.size, o, none⟩ = w7.cell? ⟨wr.heap.size, o, none⟩) ∧ Below w.heap.size w w')) := fun W hW => by
            have hl := hlens.out
            have hzW := hW.size
            refine (WriteString_k w1.heap.size w1.heap.size _ _ W (builder_below hI7.out hW) ?_ (by omega)).mono ?_
            · rw [line_size, Lib.byteCells_append, List.length_append]
              have := hTk.out
              simp [Lib.byteCells_length] at this ⊢
              omega
            · rintro e w8 ⟨rfl, hA8, hb8, ho8⟩
              have hz8 := hb8.size
              rw [line_cells, ← Lib.byteCells_append] at hA8
              refine ⟨_, rfl, ?_, ((hB17.out.trans ⟨hW.os, hW.tape, hW.output, hW.size, fun i hi => hW.block i (by omega)⟩)).trans hb8, by omega, fun o => ?_, ?_⟩
              · rw [htx.out]
                refine .inr ?_
                have e : textOf (l.take k) ++ [114] ++ (Lib.itoa (sn + 1) ++ 32 :: (Lib.itoa sx ++ 32 :: (Lib.itoa sy ++ [10]))) = textOf (l.take k) ++ lineOf ⟨0, sn, sx, sy⟩ := by
                  simp [lineOf]
                rw [← e]
                exact hA8
              · have h1 := ((hx7H.out.below hW).kept ho8 (by omega))
                unfold SnBox at h1
                have h2 := hx7H.out
                unfold SnBox at h2
                unfold World.cell?
                rw [h1, h2]
              · exact (b_call hB7 hW).trans ⟨hb8.os, hb8.tape, hb8.output, hb8.size, fun i hi => hb8.block i (by omega)⟩
          have hfx : Hid (∀ W, Below w7.heap.size w7 W → Calls Tryz.prog 46 #[.int .i64 sx, .int .i64 10] W fun e w' => e = .returned (tval (Lib.itoa sx)) ∧ Below W.heap.size W w') := fun W h => FormatInt_any sx (by omega) (by omega) W (hE.below (b_call hB7 h))
          have hfy : Hid (∀ W, Below w7.heap.size w7 W → Calls Tryz.prog 46 #[.int .i64 sy, .int .i64 10] W fun e w' => e = .returned (tval (Lib.itoa sy)) ∧ Below W.heap.size W w') := fun W h => FormatInt_any sy (by omega) (by omega) W (hE.below (b_call hB7 h))
          have hit : Hid (∀ W, Calls Tryz.prog 45 #[.int .i64 (sn + 1)] W fun e w' => e = .returned (tval (Lib.itoa (sn + 1))) ∧ w' = W) := fun W => Itoa_any (sn + 1) (by omega) (by omega) W
          have hwr : IntKind.i64.wrap (sn + 1) = sn + 1 := Go.IntWalk.i64_in _ ⟨by omega, by omega⟩
          obtain ⟨hl1, hl2, hl3⟩ := hlens.out
          have hs1 : ¬ (9223372036854775807 < (Lib.itoa (sn + 1)).length + 1) := by omega
          have hs2 : ¬ (9223372036854775807 < (Lib.itoa (sn + 1)).length + 1 + (Lib.itoa sx).length) := by omega
          have hs3 : ¬ (9223372036854775807 < (Lib.itoa (sn + 1)).length + 1 + (Lib.itoa sx).length + 1) := by omega
          have hs4 : ¬ (9223372036854775807 < (Lib.itoa (sn + 1)).length + 1 + (Lib.itoa sx).length + 1 + (Lib.itoa sy).length) := by omega
          have hs5 : ¬ (9223372036854775807 < (Lib.itoa (sn + 1)).length + 1 + (Lib.itoa sx).length + 1 + (Lib.itoa sy).length + 1) := by omega
          clear hA7 ho7 hb7 hx7 hI7 hB17 hI hlens hTk htx c0 c1 c2 c3
          go_region_held3 (fun W => (∀ o, W.cell? ⟨wr.heap.size, o, none⟩ = w7.cell? ⟨wr.heap.size, o, none⟩) ∧ Below w.heap.size w W)
            (first | assumption | (refine hkeep.out _ ?_; (repeat (first | (with_reducible exact Below.refl _ _) | (with_reducible assumption) | (with_reducible refine b_alloc ?_) | (with_reducible refine b_drew ?_) | (with_reducible refine b_drewN ?_) | (with_reducible refine b_set ?_ (by first | (simp; done) | (dsimp only; omega))) | (with_reducible refine b_call ?_ (by assumption)))); done))
            (first
              | (go_at_call 45; refine (hit.out _).mono ?_; rintro e w' ⟨rfl, rfl⟩)
              | (go_at_call 46; refine (hfx.out _ (by (repeat (first | (with_reducible exact Below.refl _ _) | (with_reducible assumption) | (with_reducible refine b_alloc ?_) | (with_reducible refine b_drew ?_) | (with_reducible refine b_drewN ?_) | (with_reducible refine b_set ?_ (by first | (simp; done) | (dsimp only; omega))) | (with_reducible refine b_call ?_ (by assumption)))))).mono ?_; rintro e w9 ⟨rfl, hb9⟩)
              | (go_at_call 46; refine (hfy.out _ (by (repeat (first | (with_reducible exact Below.refl _ _) | (with_reducible assumption) | (with_reducible refine b_alloc ?_) | (with_reducible refine b_drew ?_) | (with_reducible refine b_drewN ?_) | (with_reducible refine b_set ?_ (by first | (simp; done) | (dsimp only; omega))) | (with_reducible refine b_call ?_ (by assumption)))))).mono ?_; rintro e w10 ⟨rfl, hb10⟩)
              | (go_at_call 44; refine (hcon.out _ (by (repeat (first | (with_reducible exact Below.refl _ _) | (with_reducible assumption) | (with_reducible refine b_alloc ?_) | (with_reducible refine b_drew ?_) | (with_reducible refine b_drewN ?_) | (with_reducible refine b_set ?_ (by first | (simp; done) | (dsimp only; omega))) | (with_reducible refine b_call ?_ (by assumption)))))).mono ?_; rintro e w11 ⟨v11, rfl, hI11, hb11, hz11, hS11⟩))
          all_goals
            go_wp2
            go_roundw
            case rel => exact ⟨k + 1, by omega, by go_num, hI11, hb11, hz11⟩
            case measure => simp [intOf]; omega
        · go_wp2_with (go_at_call 43; refine (WriteByte_k _ _ _ _ _ (hI.alloc _) (by have := hTk.out; omega) (by simp; omega)).mono ?_; rintro e w7 ⟨rfl, hA7, hb7, ho7⟩)
          have hI7 : Hid (Lib.IsBuilderF 66 5 w1.heap.size w1.heap.size (Lib.byteCells (textOf (l.take k) ++ [121])) w7) := .inr (by rw [Lib.byteCells_append]; exact hA7)
          have hx7 : SnBox w7 wr.heap.size ⟨1, sn, sx, sy⟩ := SnBox.kept (w := wr.alloc (.cells #[.int .i64 1, .int .i64 sn, .int .i64 sx, .int .i64 sy] 53 (0, 0))) (alloc_at wr _) ho7 (by omega)
          have hz7 := hb7.size
          simp at hz7
          have hB7 : Below w.heap.size w w7 := (b_alloc (b_call hb1 hb)).trans ⟨hb7.os, hb7.tape, hb7.output, hb7.size, fun i hi => hb7.block i (by omega)⟩
          have hB17 : Hid (Below w1.heap.size w1 w7) := (b_alloc hb).trans hb7
          obtain ⟨d0, d1, d2, d3, dz⟩ := hx7.cells
          have hx7H := Lib.hid hx7
          have hkeep : Hid (∀ W, Below w7.heap.size w7 W → (∀ o, W.cell? ⟨wr.heap.size, o, none⟩ = w7.cell? ⟨wr.heap.size, o, none⟩) ∧ Below w.heap.size w W) := fun W h => ⟨fun o => h.cell (p := ⟨wr.heap.size, o, none⟩) dz, b_call hB7 h⟩
          have hcon : Hid (∀ W, Below w7.heap.size w7 W → Calls Tryz.prog 44 #[.pointer (some ⟨w1.heap.size, 0, none⟩), .string (((((tval' (Lib.itoa (sn + 1)) ++ (⟨#[32]⟩ : ByteArray)) ++ tval' (Lib.itoa sx)) ++ (⟨#[32]⟩ : ByteArray)) ++ tval' (Lib.itoa sy)) ++ (⟨#[10]⟩ : ByteArray))] W fun e w' => ∃ v, e = .returned v ∧ Lib.IsBuilderF 66 5 w1.heap.size w1.heap.size (Lib.byteCells (textOf (l.take (k + 1)))) w' ∧ Below w1.heap.size w1 w' ∧ w1.heap.size < w'.heap.size ∧ ((∀ o, w'.cell? ⟨wr.heap.size, o, none⟩ = w7.cell? ⟨wr.heap.size, o, none⟩) ∧ Below w.heap.size w w')) := fun W hW => by
            have hl := hlens.out
            have hzW := hW.size
            refine (WriteString_k w1.heap.size w1.heap.size _ _ W (builder_below hI7.out hW) ?_ (by omega)).mono ?_
            · rw [line_size, Lib.byteCells_append, List.length_append]
              have := hTk.out
              simp [Lib.byteCells_length] at this ⊢
              omega
            · rintro e w8 ⟨rfl, hA8, hb8, ho8⟩
              have hz8 := hb8.size
              rw [line_cells, ← Lib.byteCells_append] at hA8
              refine ⟨_, rfl, ?_, ((hB17.out.trans ⟨hW.os, hW.tape, hW.output, hW.size, fun i hi => hW.block i (by omega)⟩)).trans hb8, by omega, fun o => ?_, ?_⟩
              · rw [htx.out]
                refine .inr ?_
                have e : textOf (l.take k) ++ [121] ++ (Lib.itoa (sn + 1) ++ 32 :: (Lib.itoa sx ++ 32 :: (Lib.itoa sy ++ [10]))) = textOf (l.take k) ++ lineOf ⟨1, sn, sx, sy⟩ := by
                  simp [lineOf]
                rw [← e]
                exact hA8
              · have h1 := ((hx7H.out.below hW).kept ho8 (by omega))
                unfold SnBox at h1
                have h2 := hx7H.out
                unfold SnBox at h2
                unfold World.cell?
                rw [h1, h2]
              · exact (b_call hB7 hW).trans ⟨hb8.os, hb8.tape, hb8.output, hb8.size, fun i hi => hb8.block i (by omega)⟩
          have hfx : Hid (∀ W, Below w7.heap.size w7 W → Calls Tryz.prog 46 #[.int .i64 sx, .int .i64 10] W fun e w' => e = .returned (tval (Lib.itoa sx)) ∧ Below W.heap.size W w') := fun W h => FormatInt_any sx (by omega) (by omega) W (hE.below (b_call hB7 h))
          have hfy : Hid (∀ W, Below w7.heap.size w7 W → Calls Tryz.prog 46 #[.int .i64 sy, .int .i64 10] W fun e w' => e = .returned (tval (Lib.itoa sy)) ∧ Below W.heap.size W w') := fun W h => FormatInt_any sy (by omega) (by omega) W (hE.below (b_call hB7 h))
          have hit : Hid (∀ W, Calls Tryz.prog 45 #[.int .i64 (sn + 1)] W fun e w' => e = .returned (tval (Lib.itoa (sn + 1))) ∧ w' = W) := fun W => Itoa_any (sn + 1) (by omega) (by omega) W
          have hwr : IntKind.i64.wrap (sn + 1) = sn + 1 := Go.IntWalk.i64_in _ ⟨by omega, by omega⟩
          obtain ⟨hl1, hl2, hl3⟩ := hlens.out
          have hs1 : ¬ (9223372036854775807 < (Lib.itoa (sn + 1)).length + 1) := by omega
          have hs2 : ¬ (9223372036854775807 < (Lib.itoa (sn + 1)).length + 1 + (Lib.itoa sx).length) := by omega
          have hs3 : ¬ (9223372036854775807 < (Lib.itoa (sn + 1)).length + 1 + (Lib.itoa sx).length + 1) := by omega
          have hs4 : ¬ (9223372036854775807 < (Lib.itoa (sn + 1)).length + 1 + (Lib.itoa sx).length + 1 + (Lib.itoa sy).length) := by omega
          have hs5 : ¬ (9223372036854775807 < (Lib.itoa (sn + 1)).length + 1 + (Lib.itoa sx).length + 1 + (Lib.itoa sy).length + 1) := by omega
          clear hA7 ho7 hb7 hx7 hI7 hB17 hI hlens hTk htx c0 c1 c2 c3
          go_region_held3 (fun W => (∀ o, W.cell? ⟨wr.heap.size, o, none⟩ = w7.cell? ⟨wr.heap.size, o, none⟩) ∧ Below w.heap.size w W)
            (first | assumption | (refine hkeep.out _ ?_; (repeat (first | (with_reducible exact Below.refl _ _) | (with_reducible assumption) | (with_reducible refine b_alloc ?_) | (with_reducible refine b_drew ?_) | (with_reducible refine b_drewN ?_) | (with_reducible refine b_set ?_ (by first | (simp; done) | (dsimp only; omega))) | (with_reducible refine b_call ?_ (by assumption)))); done))
            (first
              | (go_at_call 45; refine (hit.out _).mono ?_; rintro e w' ⟨rfl, rfl⟩)
              | (go_at_call 46; refine (hfx.out _ (by (repeat (first | (with_reducible exact Below.refl _ _) | (with_reducible assumption) | (with_reducible refine b_alloc ?_) | (with_reducible refine b_drew ?_) | (with_reducible refine b_drewN ?_) | (with_reducible refine b_set ?_ (by first | (simp; done) | (dsimp only; omega))) | (with_reducible refine b_call ?_ (by assumption)))))).mono ?_; rintro e w9 ⟨rfl, hb9⟩)
              | (go_at_call 46; refine (hfy.out _ (by (repeat (first | (with_reducible exact Below.refl _ _) | (with_reducible assumption) | (with_reducible refine b_alloc ?_) | (with_reducible refine b_drew ?_) | (with_reducible refine b_drewN ?_) | (with_reducible refine b_set ?_ (by first | (simp; done) | (dsimp only; omega))) | (with_reducible refine b_call ?_ (by assumption)))))).mono ?_; rintro e w10 ⟨rfl, hb10⟩)
              | (go_at_call 44; refine (hcon.out _ (by (repeat (first | (with_reducible exact Below.refl _ _) | (with_reducible assumption) | (with_reducible refine b_alloc ?_) | (with_reducible refine b_drew ?_) | (with_reducible refine b_drewN ?_) | (with_reducible refine b_set ?_ (by first | (simp; done) | (dsimp only; omega))) | (with_reducible refine b_call ?_ (by assumption)))))).mono ?_; rintro e w11 ⟨v11, rfl, hI11, hb11, hz11, hS11⟩))
          all_goals
            go_wp2
            go_roundw
            case rel => exact ⟨k + 1, by omega, by go_num, hI11, hb11, hz11⟩
            case measure => simp [intOf]; omega
      · obtain rfl : k = l.length := by omega
        rw [List.take_length] at hI
        have hB := Lib.hid (b_call hb1 hb)
        go_wp2_with (go_at_call 47; refine (String_k _ _ _ _ hI (by omega)).mono ?_; rintro e w7 ⟨rfl, _, hb7, _⟩)
        exact bodyPost_ret (v := .tuple #[tval (textOf l), .int .i64 0]) (by simp [results, Tryz.results13, go_sem]) rfl ⟨by rw [hp.out], hB.out.trans ⟨hb7.os, hb7.tape, hb7.output, hb7.size, fun i hi => hb7.block i (by omega)⟩⟩
end Go.Proofs.YtbeapddadogfaaaGreatDoor
