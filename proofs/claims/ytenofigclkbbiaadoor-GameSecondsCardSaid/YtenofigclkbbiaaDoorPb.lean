/-
  The board: the program.
-/
import Derived.Test.YtenofigclkbbiaaDoorBd
import Derived.Deep.DeepCutAuto
set_option linter.unusedVariables false
set_option linter.unusedSimpArgs false
namespace Go.Proofs.YtenofigclkbbiaaDoor
open Go.RowKit
open Game
theorem cells_new2 (w : World) (a b : Value) (e : TypeId) : ∀ (j : Nat) (u : Value), ([a, b] : List Value)[j]? = some u → (w.alloc (.cells #[a, b] e)).cell? ((⟨w.heap.size, 0, none⟩ : Addr).add j) = some u := by
  intro j u hu
  have e0 := alloc_at w (.cells #[a, b] e)
  match j with
  | 0 => exact (cell_of_row _ w.heap.size 0 _ _ (0, 0) e0).trans (by simpa using hu)
  | 1 => exact (cell_of_row _ w.heap.size 1 _ _ (0, 0) e0).trans (by simpa using hu)
  | j + 2 => simp at hu
theorem join_own {w : World} {B g cap : Nat} {P : List (List UInt8)} (h : w.ownsRow B 9 1 (.slice (some ⟨g, 0, none⟩) P.length cap) P.length (P.map tval)) (hl : P.length ≤ 1000) (hlen : (Lib.join P [32]).length ≤ 100000) :
    Calls Tryd.prog 50 #[.slice (some ⟨g, 0, none⟩) P.length cap, .string ⟨#[32]⟩] w fun e w' => e = .returned (tval (Lib.join P [32])) ∧ Below w.heap.size w w' := by
  have hcap : P.length ≤ cap := by
    rcases h.2 with ⟨h', _⟩ | ⟨g', cap', cur, h1, _, _, h4, _⟩
    · cases h'
    · cases h1; exact h4
  have hmap : (P.map (fun c => (⟨c.toArray⟩ : ByteArray))).map (·.data.toList) = P := by simp [Function.comp_def]
  have hx := Tryd.strings_Join g 0 cap (P.map (fun c => (⟨c.toArray⟩ : ByteArray))) ⟨#[32]⟩ w (by
    intro j x hx
    have hu : (P.map tval)[j]? = some (.string x) := by
      rw [List.getElem?_map] at hx ⊢
      cases hp : P[j]? with
      | none => simp [hp] at hx
      | some c => simp [hp] at hx; simp [tval, ← hx]
    have := h.cells (g := g) rfl j _ hu
    unfold Addr.add at this
    split at this
    · rename_i h0; subst h0; exact this
    · simpa using this) (h.lt g rfl).2 (by simp; omega) (by simpa using hcap) (by rw [hmap]; show (Lib.join P [32]).length ≤ _; omega)
  rw [hmap, List.length_map] at hx
  exact hx
theorem ry_size : (⟨#[114, 121]⟩ : ByteArray).size = 2 := rfl
set_option maxHeartbeats 4000000 in
set_option maxRecDepth 100000 in
theorem pBoard_1 (m : Mt) (first : Int) (A : Option Addr) (cap : Nat) (card : List Ln) (con : Int) (w : World) (hc : Card w A card) (hcap : card.length ≤ cap) (htab : Tab w) (hok : (replay m first card con).2.2 = 0) :
    Calls Tryd.prog 15 #[mval m, .int .i64 first, .slice A card.length cap, .int .i64 con] w fun e w' => e = .returned (.tuple #[tval (boardText m first card con), .int .i64 0]) ∧ Below w.heap.size w w' := by
  obtain ⟨h40, hp0, hp1, hpts, hlen⟩ := replay_good hok
  have hrep := fun (W : World) (hW : Below w.heap.size w W) => pReplay_any m first A cap card con W (hc.in_.below hW (Nat.le_refl _) |>.to hW.size)
  have hham := fun (W : World) (hW : Below w.heap.size w W) => pHammers_any m first A cap card W (hc.in_.below hW (Nat.le_refl _) |>.to hW.size) hcap
  rw [hok] at hrep
  have hhl : (hamsOf m first card).length ≤ 41 := by
    unfold hamsOf
    split
    · rw [List.length_append, List.length_map, List.length_range]
      split <;> simp <;> omega
    · simp
  unfold boardText
  generalize (replay m first card con).1 = sd at *
  generalize hamsOf m first card = hs at *
  generalize (replay m first card (-1)).2.2 = er at *
  clear hok
  obtain ⟨i0, hj, hj0, hj1, hj2⟩ := info_parts Tryd.info9
  have hcB := hc.in_
  go_enter Tryd.func15, Tryd.ntmps15
  go_wp2_with (first
    | (go_at_call 11; refine (hrep _ (by (repeat (first | (with_reducible exact Below.refl _ _) | (with_reducible assumption) | (with_reducible refine b_alloc ?_) | (with_reducible refine b_drew ?_) | (with_reducible refine b_drewN ?_) | (with_reducible refine b_set ?_ (by first | (simp; done) | (dsimp only; omega))) | (with_reducible refine b_call ?_ (by assumption)))))).mono ?_; rintro e w1 ⟨rfl, hb1⟩; have hM : MtAt w1 w.heap.size m := (hb1.block _ (by simp)).trans (alloc_at w _); obtain ⟨q0, q1, q2, q3, q4, qf, qz⟩ := hM.cells)
    | (go_at_call 13; refine (hham _ (by (repeat (first | (with_reducible exact Below.refl _ _) | (with_reducible assumption) | (with_reducible refine b_alloc ?_) | (with_reducible refine b_drew ?_) | (with_reducible refine b_drewN ?_) | (with_reducible refine b_set ?_ (by first | (simp; done) | (dsimp only; omega))) | (with_reducible refine b_call ?_ (by assumption)))))).mono ?_; rintro e w2 ⟨v2, rfl, hown2, hb2⟩; obtain ⟨A2, ca2, rfl, hR2, hRb2⟩ := own_rd hown2 (by omega)))
  have hB1 := b_call (b_alloc (Below.refl w.heap.size w)) hb1
  have hB2 := b_call (b_alloc (o := .cells #[.int .i64 sd.p0, .int .i64 sd.p1, .int .i64 sd.ends, .int .i64 sd.hammer, .int .i64 sd.winner, .bool sd.over, .bool sd.extra, .bool sd.w0, .bool sd.w1] 29) hB1) hb2
  have hS2 : StAt w2 w1.heap.size sd := (hb2.block _ (by simp)).trans (alloc_at w1 _)
  have hz2 : w1.heap.size < w2.heap.size := by have := hb2.size; simp at this; omega
  clear hrep hham q0 q1 q2 q3 q4 qf qz hM hown2 hb1 hb2 hB1
  have hBox : (w2.alloc (.cells #[.slice A2 hs.length ca2] 33)).cell? ⟨w2.heap.size, 0, none⟩ = some (.slice A2 hs.length ca2) := by simp
  have hBL := b_alloc (o := .cells #[.slice A2 hs.length ca2] 33) hB2
  have hSL : StAt (w2.alloc (.cells #[.slice A2 hs.length ca2] 33)) w1.heap.size sd := hS2.kept (alloc_old _ _ hz2)
  have hRL : Rd (w2.alloc (.cells #[.slice A2 hs.length ca2] 33)) A2 hs := hR2.below (b_alloc (Below.refl w2.heap.size w2)) hRb2
  have hCL := hcB.below hBL (Nat.le_refl _)
  have hTL := htab.below hBL (Nat.le_refl _)
  have hzL : (w2.alloc (.cells #[.slice A2 hs.length ca2] 33)).heap.size = w2.heap.size + 1 := by simp
  have hzw := hB2.size
  obtain ⟨wL, hwL⟩ : ∃ wL, wL = w2.alloc (.cells #[.slice A2 hs.length ca2] 33) := ⟨_, rfl⟩
  have hI0 : Lib.IsBuilderF 89 5 (w2.heap.size + 1) (w2.heap.size + 1) (Lib.byteCells []) ((wL.alloc (.cells #[.pointer none, .slice none 0 0] 89)).alloc (.stringIter ⟨#[114, 121]⟩ 0)) := by
    have := (Lib.IsBuilderF.of (Lib.fresh_isBuilder 89 5 wL)).alloc (.stringIter ⟨#[114, 121]⟩ 0)
    rw [hwL] at this ⊢
    rw [hzL] at this
    exact this
  have hit0 : ((wL.alloc (.cells #[.pointer none, .slice none 0 0] 89)).alloc (.stringIter ⟨#[114, 121]⟩ 0)).heap[w2.heap.size + 1 + 1]? = some (.stringIter ⟨#[114, 121]⟩ 0) := alloc_at' (by rw [hwL]; simp)
  have hbl0 : Below (w2.heap.size + 1) wL ((wL.alloc (.cells #[.pointer none, .slice none 0 0] 89)).alloc (.stringIter ⟨#[114, 121]⟩ 0)) := by
    have h1 : w2.heap.size + 1 = wL.heap.size := by rw [hwL, hzL]
    rw [h1]
    exact b_alloc (b_alloc (Below.refl _ _))
  rw [← hwL] at hBox hBL hSL hRL hCL hTL hzL
  simp only [hwL] at hI0 hit0 hbl0
  go_loopw [] (fun wr => ∃ (pos : Nat) (acc : List UInt8), pos ≤ 2 ∧ acc = (if pos = 0 then [] else boardRow first con 0 sd.p0 (columns 0 card hs)) ++ (if pos = 2 then boardRow first con 1 sd.p1 (columns 1 card hs) else []) ∧
      Lib.IsBuilderF 89 5 (w2.heap.size + 1) (w2.heap.size + 1) (Lib.byteCells acc) wr ∧ wr.heap[w2.heap.size + 1 + 1]? = some (.stringIter ⟨#[114, 121]⟩ pos) ∧ Below (w2.heap.size + 1) wL wr)
    (fun wr => 2 - wr.iterPos (w2.heap.size + 1 + 1))
  case atStart => exact ⟨0, [], by omega, by simp, hI0, hit0, by rw [hwL]; exact hbl0⟩
  case round =>
    clear hI0 hit0 hbl0
    obtain ⟨pos, acc, hpos, hacc, hI, hit, hbl⟩ := hrel
    have hzL' : w2.heap.size + 1 ≤ wL.heap.size := by omega
    have hzL'' : wL.heap.size ≤ w2.heap.size + 1 := by omega
    have hRb3 : ∀ ad, A2 = some ad → ad.block < w2.heap.size + 1 := fun ad e => by have := hRb2 ad e; omega
    clear hwL hzL hc hcB htab hS2 hR2 hB2
    by_cases hlt : pos < 2
    · obtain ⟨L, l, hnx, hcv, hl⟩ : ∃ (L : Int) (l : UInt8), (∀ ty, (Instr.next (.pointer (some ⟨w2.heap.size + 1 + 1, 0, none⟩)) true ty).run Tryd.prog wr = .ok (.tuple #[.bool true, .int .i64 pos, .int .i32 L]) (wr.iterAt (w2.heap.size + 1 + 1) ⟨#[114, 121]⟩ (pos + 1))) ∧
          (∀ W, (convert 21 9 (.int .i32 L)).run Tryd.prog W = .ok (tval [l]) W) ∧ l = (if (pos : Int) = 0 then 114 else 121) := by
        obtain rfl | rfl : pos = 0 ∨ pos = 1 := by omega
        · exact ⟨114, 114, fun ty => Lib.run_next_ascii_at wr _ _ 0 ty hit (by decide) (by decide), fun W => by kernel_rfl, by simp⟩
        · exact ⟨121, 121, fun ty => Lib.run_next_ascii_at wr _ _ 1 ty hit (by decide) (by decide), fun W => by kernel_rfl, by simp⟩
      obtain ⟨W1, hW1⟩ : ∃ W1, W1 = wr.iterAt (w2.heap.size + 1 + 1) ⟨#[114, 121]⟩ (pos + 1) := ⟨_, rfl⟩
      rw [← hW1] at hnx
      have hI1 : Lib.IsBuilderF 89 5 (w2.heap.size + 1) (w2.heap.size + 1) (Lib.byteCells acc) W1 := by rw [hW1]; exact hI.iterAt hit (pos + 1)
      have hit1 : W1.heap[w2.heap.size + 1 + 1]? = some (.stringIter ⟨#[114, 121]⟩ (pos + 1)) := by rw [hW1]; exact Lib.iterAt_heap wr _ _ pos (pos + 1) hit
      have hbl1 : Below (w2.heap.size + 1) wL W1 := by rw [hW1]; exact Lib.below_iterAt hbl (by omega) _ _
      have hz1 : w2.heap.size + 1 + 1 < W1.heap.size := (Array.getElem?_eq_some_iff.1 hit1).1
      have hitp : wr.iterPos (w2.heap.size + 1 + 1) = pos := by simp only [World.iterPos, hit]
      clear hW1 hI hbl hit
      have hmap := Lib.hid (fun (W : World) (hW : Below (w2.heap.size + 1) wL W) (T : Nat) (hT : W.cell? ⟨T, 0, none⟩ = some (.int .i64 (pos : Int))) =>
        mapped_any card A cap T w2.heap.size pos hs A2 ca2 W ((hCL.below hW (by omega)).to (by have := hW.size; omega)) hT ((hW.cell (p := ⟨w2.heap.size, 0, none⟩) (by simp only; omega)).trans hBox) (hRL.below hW hRb3) (fun ad e => by have := hRb3 ad e; have := hW.size; omega) hlen h40 (fun x hx => by have := hpts x hx; omega))
      have hcl := columns_le (t := (pos : Int)) (hs := hs) hpts
      have hcn := columns_len (t := (pos : Int)) hlen
      have hal : acc.length ≤ 200 := by
        rw [hacc]
        rw [if_neg (by omega : ¬ pos = 2), List.append_nil]
        split
        · simp
        · exact boardRow_len (columns_le hpts) (by rw [columns_len hlen]; exact h40) hp0
      obtain ⟨n, hn3, hn320, hnp⟩ : ∃ n : Nat, n < 1000 ∧ n ≤ 320 ∧ (if pos = 0 then sd.p0 else sd.p1) = n := by
        split
        · exact ⟨sd.p0.toNat, by omega, by omega, by omega⟩
        · exact ⟨sd.p1.toNat, by omega, by omega, by omega⟩
      have Hcl := Lib.hid hcl
      have Hl := Lib.hid hl
      have Hnp := Lib.hid hnp
      have Hhit := Lib.hid hitp
      have Hacc := Lib.hid hacc
      clear hpts hcl hnp hitp hacc hl
      by_cases hf : (pos : Int) = first
      · have hf' : ((pos : Int) == first) = true := by simpa using hf
        have Hf := Lib.hid hf
        clear hf
        go_wp2_with fail
        refine (hmap.out _ (hbl1.alloc (by omega) _) _ (by simp)).mono ?_
        rintro e w5 ⟨g5, cap5, rfl, hown5, hb5⟩
        have hbW5 : Below (w2.heap.size + 1) wL w5 := (hbl1.alloc (by omega) _).trans (hb5.mono (by simp; omega))
        have hT5 : w5.cell? ⟨W1.heap.size, 0, none⟩ = some (.int .i64 (pos : Int)) := (hb5.cell (p := ⟨W1.heap.size, 0, none⟩) (by simp)).trans (by simp)
        have hI5 := builder_below (hI1.alloc (.cells #[.int .i64 (pos : Int)] 3)) hb5
        have hit5 : w5.heap[w2.heap.size + 1 + 1]? = some (.stringIter ⟨#[114, 121]⟩ (pos + 1)) := (hb5.block _ (by simp; omega)).trans ((alloc_old _ _ (by omega)).trans hit1)
        have hz5 : W1.heap.size + 1 ≤ w5.heap.size := by have := hb5.size; simpa using this
        clear hI1 hit1 hmap hbl1 hb5
        go_wp2_with (at_builtin; refine wpList_append_own _ rfl _ _ 90 rfl w5.heap.size 9 i0 (.string ⟨#[]⟩) 1 16 (by kernel_rfl) hj hj0 hj1 hj2 rfl (by decide) _ _ _ rfl (own_built (Nat.le_refl _)) ⟨g5, 0, none⟩ card.length cap5 ((columns pos card hs).map tval) rfl ?c0 ?c1 ?c2 ?c3 ?c4 ?c5 ?_)
        case c0 => simp [hcn]
        case c1 => exact (hown5.alloc _).cells (g := g5) rfl
        case c2 => intro u hu; simp at hu; obtain ⟨a, _, rfl⟩ := hu; rfl
        case c3 => unfold maxLen; omega
        case c4 => omega
        case c5 => simp
        intro v6 w6 hown6 hgr6 hnn6
        obtain ⟨g6, cap6, rfl⟩ := own_form hown6 (by omega)
        have hb6 := own_grow (own_built (w := w5) (Nat.le_refl _)) hgr6 (by simp)
        have hb56 : Below w5.heap.size w5 w6 := (b_alloc (Below.refl _ _)).trans hb6
        have hT6 : w6.cell? ⟨W1.heap.size, 0, none⟩ = some (.int .i64 (pos : Int)) := (hb56.cell (p := ⟨W1.heap.size, 0, none⟩) (by simp only; omega)).trans hT5
        have hbW6 : Below (w2.heap.size + 1) wL w6 := hbW5.trans (hb56.mono (by omega))
        have hS6 : StAt w6 w1.heap.size sd := hSL.kept (hbW6.block _ (by omega))
        have hpt : w6.cell? ⟨w1.heap.size, pos, none⟩ = some (.int .i64 (n : Int)) := by
          have hn' := Hnp.out
          obtain rfl | rfl : pos = 0 ∨ pos = 1 := by omega
          · rw [← hn']; exact hS6.cells.1
          · rw [← hn']; exact hS6.cells.2.1
        have hsz56 := hb56.size
        clear hgr6 hb6 hown5
        go_wp2_with (first
          | (go_at_call 48; refine (itoa_any n _ hn3 (hTL.below hbW6 hzL'')).mono ?_; rintro e w7 ⟨rfl, hb7⟩; have hown7 := own_below hown6 hb7; have hz7 : w6.heap.size ≤ w7.heap.size := hb7.size)
          | (at_builtin; refine wpList_append_own _ rfl _ _ 90 rfl w5.heap.size 9 i0 (.string ⟨#[]⟩) 1 16 (by kernel_rfl) hj hj0 hj1 hj2 rfl (by decide) _ _ _ rfl (hown7.alloc _) ⟨w7.heap.size, 0, none⟩ 2 2 [tval [61], tval (Lib.decDigits n)] rfl rfl ?c1 ?c2 ?c3 ?c4 ?c5 ?_))
        case c1 => exact cells_new2 _ _ _ _
        case c2 => intro u hu; simp at hu; rcases hu with rfl | rfl <;> rfl
        case c3 => unfold maxLen; omega
        case c4 => omega
        case c5 => simp; omega
        intro v8 w8 hown8 hgr8 hnn8
        obtain ⟨g8, cap8, rfl⟩ := own_form hown8 (by omega)
        have hb8 := own_grow (hown7.alloc _) hgr8 (by simp; omega)
        have hb58 : Below w5.heap.size w5 w8 := ((hb56.trans (hb7.mono hsz56)).alloc (by omega) _).trans hb8
        have hT8 : w8.cell? ⟨W1.heap.size, 0, none⟩ = some (.int .i64 (pos : Int)) := (hb58.cell (p := ⟨W1.heap.size, 0, none⟩) (by simp only; omega)).trans hT5
        have hsz58 := hb58.size
        have hsl : (({ data := #[l] } : ByteArray) ++ { data := #[42] }) = ⟨#[if (pos : Int) = 0 then 114 else 121, if first = pos then 42 else 32]⟩ := by rw [Hl.out, show (if first = (pos : Int) then (42 : UInt8) else 32) = 42 from if_pos Hf.out.symm]; exact ba_app [_] [_]
        have Hsl := Lib.hid hsl
        clear hsl hb8 hgr8 hown7 hb7 hz7 hown6 hb56 hT6 hbW6 hS6 hpt hsz56
        by_cases hcp : con = (pos : Int)
        · have hcp' : (con == (pos : Int)) = true := by simpa using hcp
          have Hcp := Lib.hid hcp
          clear hcp
          go_wp2_with (at_builtin; refine wpList_append_own _ rfl _ _ 90 rfl w5.heap.size 9 i0 (.string ⟨#[]⟩) 1 16 (by kernel_rfl) hj hj0 hj1 hj2 rfl (by decide) _ _ _ rfl (hown8.alloc _) ⟨w8.heap.size, 0, none⟩ 1 1 [tval [120]] rfl rfl ?c1 ?c2 ?c3 ?c4 ?c5 ?_)
          case c1 => exact cell_one_new _ _ _
          case c2 => intro u hu; simp at hu; subst hu; rfl
          case c3 => unfold maxLen; omega
          case c4 => omega
          case c5 => simp; omega
          intro v9 w9 hown9 hgr9 hnn9
          obtain ⟨g9, cap9, rfl⟩ := own_form hown9 (by omega)
          have hb9 := own_grow (hown8.alloc _) hgr9 (by simp; omega)
          have hb59 : Below w5.heap.size w5 w9 := (hb58.alloc (by omega) _).trans hb9
          have hsz59 := hb59.size
          have hP9 : Value.string ({ data := #[l] } ++ { data := #[42] }) :: (List.map tval (columns (pos : Int) card hs) ++ [tval [61], tval (Lib.decDigits n), tval [120]]) = (boardParts first con pos n (columns pos card hs)).map tval := by
            rw [Hsl.out]; simp [boardParts, Hcp.out]
          rw [hP9] at hown9
          clear hP9 hb9 hgr9 hown8 hT8 hb58
          have hPl : (boardParts first con pos n (columns pos card hs)).length = 1 + card.length + 2 + 1 := by
            unfold boardParts
            simp [hcn, Hcp.out]; try omega
          have hjn : (Lib.join (boardParts first con pos n (columns pos card hs)) [32] ++ [10]).length ≤ 200 := by
            rw [boardRow_join]
            exact boardRow_len Hcl.out (by omega) (by omega)
          rw [List.length_append, List.length_singleton] at hjn
          have hj9 := join_own (w := w9) (B := w5.heap.size) (g := g9) (cap := cap9) (P := boardParts first con pos n (columns pos card hs)) (by rw [hPl]; exact hown9) (by omega) (by omega)
          rw [hPl] at hj9
          generalize hJ : Lib.join (boardParts first con pos n (columns pos card hs)) [32] = J at hj9 hjn
          have HJ := Lib.hid hJ
          clear hJ hPl
          have hws := fun (W : World) (hI : Lib.IsBuilderF 89 5 (w2.heap.size + 1) (w2.heap.size + 1) (Lib.byteCells acc) W) (hz : w2.heap.size + 1 ≤ W.heap.size) => Tryd.Builder_WriteString_k (w2.heap.size + 1) (w2.heap.size + 1) (Lib.byteCells acc) ({ data := J.toArray } ++ { data := #[10] }) W hI (by rw [Lib.byteCells_length, ByteArray.size_append]; show acc.length + (J.length + 1) ≤ _; omega) hz
          go_wp2_with (first
            | (go_at_call 50; refine hj9.mono ?_; rintro e wJ ⟨rfl, hbJ⟩; have hb5J := hb59.trans (hbJ.mono hsz59); have hIJ := builder_below hI5 hb5J; have hzJ := hb5J.size; have hitJ : wJ.heap[w2.heap.size + 1 + 1]? = some (.stringIter ⟨#[114, 121]⟩ (pos + 1)) := (hb5J.block _ (by omega)).trans hit5)
            | (go_at_call 49; refine (hws _ hIJ (by omega)).mono ?_; rintro e wW ⟨rfl, h1, b1, k1⟩; have hitW := k1.iter hitJ (by omega); clear k1))
          go_roundw
          case rel =>
            refine ⟨pos + 1, acc ++ (J ++ [10]), by omega, ?_, ?_, hitW, (hbW5.trans (hb5J.mono (by omega))).trans b1⟩
            · rw [← HJ.out, boardRow_join, Hacc.out]
              have hn' := Hnp.out
              obtain rfl | rfl : pos = 0 ∨ pos = 1 := by omega
              · rw [if_pos rfl] at hn'; rw [← hn']; simp
              · rw [if_neg (by omega)] at hn'; rw [← hn']; simp
            · refine Or.inr ?_
              have e1 : Lib.byteCells acc ++ Lib.strCells ({ data := J.toArray } ++ { data := #[10] }) = Lib.byteCells (acc ++ (J ++ [10])) := by
                rw [show (({ data := J.toArray } : ByteArray) ++ { data := #[10] }) = ⟨(J ++ [10]).toArray⟩ from ba_app J [10], Lib.strCells_eq, ← Lib.byteCells_append]
              rw [← e1]; exact h1
          case measure =>
            have e1 : wW.iterPos (w2.heap.size + 1 + 1) = pos + 1 := by simp only [World.iterPos, hitW]
            rw [e1, Hhit.out]; omega
        · have hcp' : (con == (pos : Int)) = false := by simpa using hcp
          have Hcp := Lib.hid hcp
          clear hcp
          have hP9 : Value.string ({ data := #[l] } ++ { data := #[42] }) :: (List.map tval (columns (pos : Int) card hs) ++ [tval [61], tval (Lib.decDigits n)]) = (boardParts first con pos n (columns pos card hs)).map tval := by
            rw [Hsl.out]; simp [boardParts, Hcp.out]
          rw [hP9] at hown8
          clear hP9
          have hPl : (boardParts first con pos n (columns pos card hs)).length = 1 + card.length + 2 := by
            unfold boardParts
            simp [hcn, Hcp.out]; try omega
          have hjn : (Lib.join (boardParts first con pos n (columns pos card hs)) [32] ++ [10]).length ≤ 200 := by
            rw [boardRow_join]
            exact boardRow_len Hcl.out (by omega) (by omega)
          rw [List.length_append, List.length_singleton] at hjn
          have hj9 := join_own (w := w8) (B := w5.heap.size) (g := g8) (cap := cap8) (P := boardParts first con pos n (columns pos card hs)) (by rw [hPl]; exact hown8) (by omega) (by omega)
          rw [hPl] at hj9
          generalize hJ : Lib.join (boardParts first con pos n (columns pos card hs)) [32] = J at hj9 hjn
          have HJ := Lib.hid hJ
          clear hJ hPl
          have hws := fun (W : World) (hI : Lib.IsBuilderF 89 5 (w2.heap.size + 1) (w2.heap.size + 1) (Lib.byteCells acc) W) (hz : w2.heap.size + 1 ≤ W.heap.size) => Tryd.Builder_WriteString_k (w2.heap.size + 1) (w2.heap.size + 1) (Lib.byteCells acc) ({ data := J.toArray } ++ { data := #[10] }) W hI (by rw [Lib.byteCells_length, ByteArray.size_append]; show acc.length + (J.length + 1) ≤ _; omega) hz
          go_wp2_with (first
            | (go_at_call 50; refine hj9.mono ?_; rintro e wJ ⟨rfl, hbJ⟩; have hb5J := hb58.trans (hbJ.mono hsz58); have hIJ := builder_below hI5 hb5J; have hzJ := hb5J.size; have hitJ : wJ.heap[w2.heap.size + 1 + 1]? = some (.stringIter ⟨#[114, 121]⟩ (pos + 1)) := (hb5J.block _ (by omega)).trans hit5)
            | (go_at_call 49; refine (hws _ hIJ (by omega)).mono ?_; rintro e wW ⟨rfl, h1, b1, k1⟩; have hitW := k1.iter hitJ (by omega); clear k1))
          go_roundw
          case rel =>
            refine ⟨pos + 1, acc ++ (J ++ [10]), by omega, ?_, ?_, hitW, (hbW5.trans (hb5J.mono (by omega))).trans b1⟩
            · rw [← HJ.out, boardRow_join, Hacc.out]
              have hn' := Hnp.out
              obtain rfl | rfl : pos = 0 ∨ pos = 1 := by omega
              · rw [if_pos rfl] at hn'; rw [← hn']; simp
              · rw [if_neg (by omega)] at hn'; rw [← hn']; simp
            · refine Or.inr ?_
              have e1 : Lib.byteCells acc ++ Lib.strCells ({ data := J.toArray } ++ { data := #[10] }) = Lib.byteCells (acc ++ (J ++ [10])) := by
                rw [show (({ data := J.toArray } : ByteArray) ++ { data := #[10] }) = ⟨(J ++ [10]).toArray⟩ from ba_app J [10], Lib.strCells_eq, ← Lib.byteCells_append]
              rw [← e1]; exact h1
          case measure =>
            have e1 : wW.iterPos (w2.heap.size + 1 + 1) = pos + 1 := by simp only [World.iterPos, hitW]
            rw [e1, Hhit.out]; omega
      · have hf' : ((pos : Int) == first) = false := by simpa using hf
        have Hf := Lib.hid hf
        clear hf
        go_wp2_with fail
        refine (hmap.out _ (hbl1.alloc (by omega) _) _ (by simp)).mono ?_
        rintro e w5 ⟨g5, cap5, rfl, hown5, hb5⟩
        have hbW5 : Below (w2.heap.size + 1) wL w5 := (hbl1.alloc (by omega) _).trans (hb5.mono (by simp; omega))
        have hT5 : w5.cell? ⟨W1.heap.size, 0, none⟩ = some (.int .i64 (pos : Int)) := (hb5.cell (p := ⟨W1.heap.size, 0, none⟩) (by simp)).trans (by simp)
        have hI5 := builder_below (hI1.alloc (.cells #[.int .i64 (pos : Int)] 3)) hb5
        have hit5 : w5.heap[w2.heap.size + 1 + 1]? = some (.stringIter ⟨#[114, 121]⟩ (pos + 1)) := (hb5.block _ (by simp; omega)).trans ((alloc_old _ _ (by omega)).trans hit1)
        have hz5 : W1.heap.size + 1 ≤ w5.heap.size := by have := hb5.size; simpa using this
        clear hI1 hit1 hmap hbl1 hb5
        go_wp2_with (at_builtin; refine wpList_append_own _ rfl _ _ 90 rfl w5.heap.size 9 i0 (.string ⟨#[]⟩) 1 16 (by kernel_rfl) hj hj0 hj1 hj2 rfl (by decide) _ _ _ rfl (own_built (Nat.le_refl _)) ⟨g5, 0, none⟩ card.length cap5 ((columns pos card hs).map tval) rfl ?c0 ?c1 ?c2 ?c3 ?c4 ?c5 ?_)
        case c0 => simp [hcn]
        case c1 => exact (hown5.alloc _).cells (g := g5) rfl
        case c2 => intro u hu; simp at hu; obtain ⟨a, _, rfl⟩ := hu; rfl
        case c3 => unfold maxLen; omega
        case c4 => omega
        case c5 => simp
        intro v6 w6 hown6 hgr6 hnn6
        obtain ⟨g6, cap6, rfl⟩ := own_form hown6 (by omega)
        have hb6 := own_grow (own_built (w := w5) (Nat.le_refl _)) hgr6 (by simp)
        have hb56 : Below w5.heap.size w5 w6 := (b_alloc (Below.refl _ _)).trans hb6
        have hT6 : w6.cell? ⟨W1.heap.size, 0, none⟩ = some (.int .i64 (pos : Int)) := (hb56.cell (p := ⟨W1.heap.size, 0, none⟩) (by simp only; omega)).trans hT5
        have hbW6 : Below (w2.heap.size + 1) wL w6 := hbW5.trans (hb56.mono (by omega))
        have hS6 : StAt w6 w1.heap.size sd := hSL.kept (hbW6.block _ (by omega))
        have hpt : w6.cell? ⟨w1.heap.size, pos, none⟩ = some (.int .i64 (n : Int)) := by
          have hn' := Hnp.out
          obtain rfl | rfl : pos = 0 ∨ pos = 1 := by omega
          · rw [← hn']; exact hS6.cells.1
          · rw [← hn']; exact hS6.cells.2.1
        have hsz56 := hb56.size
        clear hgr6 hb6 hown5
        go_wp2_with (first
          | (go_at_call 48; refine (itoa_any n _ hn3 (hTL.below hbW6 hzL'')).mono ?_; rintro e w7 ⟨rfl, hb7⟩; have hown7 := own_below hown6 hb7; have hz7 : w6.heap.size ≤ w7.heap.size := hb7.size)
          | (at_builtin; refine wpList_append_own _ rfl _ _ 90 rfl w5.heap.size 9 i0 (.string ⟨#[]⟩) 1 16 (by kernel_rfl) hj hj0 hj1 hj2 rfl (by decide) _ _ _ rfl (hown7.alloc _) ⟨w7.heap.size, 0, none⟩ 2 2 [tval [61], tval (Lib.decDigits n)] rfl rfl ?c1 ?c2 ?c3 ?c4 ?c5 ?_))
        case c1 => exact cells_new2 _ _ _ _
        case c2 => intro u hu; simp at hu; rcases hu with rfl | rfl <;> rfl
        case c3 => unfold maxLen; omega
        case c4 => omega
        case c5 => simp; omega
        intro v8 w8 hown8 hgr8 hnn8
        obtain ⟨g8, cap8, rfl⟩ := own_form hown8 (by omega)
        have hb8 := own_grow (hown7.alloc _) hgr8 (by simp; omega)
        have hb58 : Below w5.heap.size w5 w8 := ((hb56.trans (hb7.mono hsz56)).alloc (by omega) _).trans hb8
        have hT8 : w8.cell? ⟨W1.heap.size, 0, none⟩ = some (.int .i64 (pos : Int)) := (hb58.cell (p := ⟨W1.heap.size, 0, none⟩) (by simp only; omega)).trans hT5
        have hsz58 := hb58.size
        have hsl : (({ data := #[l] } : ByteArray) ++ { data := #[32] }) = ⟨#[if (pos : Int) = 0 then 114 else 121, if first = pos then 42 else 32]⟩ := by rw [Hl.out, show (if first = (pos : Int) then (42 : UInt8) else 32) = 32 from if_neg (fun h => Hf.out h.symm)]; exact ba_app [_] [_]
        have Hsl := Lib.hid hsl
        clear hsl hb8 hgr8 hown7 hb7 hz7 hown6 hb56 hT6 hbW6 hS6 hpt hsz56
        by_cases hcp : con = (pos : Int)
        · have hcp' : (con == (pos : Int)) = true := by simpa using hcp
          have Hcp := Lib.hid hcp
          clear hcp
          go_wp2_with (at_builtin; refine wpList_append_own _ rfl _ _ 90 rfl w5.heap.size 9 i0 (.string ⟨#[]⟩) 1 16 (by kernel_rfl) hj hj0 hj1 hj2 rfl (by decide) _ _ _ rfl (hown8.alloc _) ⟨w8.heap.size, 0, none⟩ 1 1 [tval [120]] rfl rfl ?c1 ?c2 ?c3 ?c4 ?c5 ?_)
          case c1 => exact cell_one_new _ _ _
          case c2 => intro u hu; simp at hu; subst hu; rfl
          case c3 => unfold maxLen; omega
          case c4 => omega
          case c5 => simp; omega
          intro v9 w9 hown9 hgr9 hnn9
          obtain ⟨g9, cap9, rfl⟩ := own_form hown9 (by omega)
          have hb9 := own_grow (hown8.alloc _) hgr9 (by simp; omega)
          have hb59 : Below w5.heap.size w5 w9 := (hb58.alloc (by omega) _).trans hb9
          have hsz59 := hb59.size
          have hP9 : Value.string ({ data := #[l] } ++ { data := #[32] }) :: (List.map tval (columns (pos : Int) card hs) ++ [tval [61], tval (Lib.decDigits n), tval [120]]) = (boardParts first con pos n (columns pos card hs)).map tval := by
            rw [Hsl.out]; simp [boardParts, Hcp.out]
          rw [hP9] at hown9
          clear hP9 hb9 hgr9 hown8 hT8 hb58
          have hPl : (boardParts first con pos n (columns pos card hs)).length = 1 + card.length + 2 + 1 := by
            unfold boardParts
            simp [hcn, Hcp.out]; try omega
          have hjn : (Lib.join (boardParts first con pos n (columns pos card hs)) [32] ++ [10]).length ≤ 200 := by
            rw [boardRow_join]
            exact boardRow_len Hcl.out (by omega) (by omega)
          rw [List.length_append, List.length_singleton] at hjn
          have hj9 := join_own (w := w9) (B := w5.heap.size) (g := g9) (cap := cap9) (P := boardParts first con pos n (columns pos card hs)) (by rw [hPl]; exact hown9) (by omega) (by omega)
          rw [hPl] at hj9
          generalize hJ : Lib.join (boardParts first con pos n (columns pos card hs)) [32] = J at hj9 hjn
          have HJ := Lib.hid hJ
          clear hJ hPl
          have hws := fun (W : World) (hI : Lib.IsBuilderF 89 5 (w2.heap.size + 1) (w2.heap.size + 1) (Lib.byteCells acc) W) (hz : w2.heap.size + 1 ≤ W.heap.size) => Tryd.Builder_WriteString_k (w2.heap.size + 1) (w2.heap.size + 1) (Lib.byteCells acc) ({ data := J.toArray } ++ { data := #[10] }) W hI (by rw [Lib.byteCells_length, ByteArray.size_append]; show acc.length + (J.length + 1) ≤ _; omega) hz
          go_wp2_with (first
            | (go_at_call 50; refine hj9.mono ?_; rintro e wJ ⟨rfl, hbJ⟩; have hb5J := hb59.trans (hbJ.mono hsz59); have hIJ := builder_below hI5 hb5J; have hzJ := hb5J.size; have hitJ : wJ.heap[w2.heap.size + 1 + 1]? = some (.stringIter ⟨#[114, 121]⟩ (pos + 1)) := (hb5J.block _ (by omega)).trans hit5)
            | (go_at_call 49; refine (hws _ hIJ (by omega)).mono ?_; rintro e wW ⟨rfl, h1, b1, k1⟩; have hitW := k1.iter hitJ (by omega); clear k1))
          go_roundw
          case rel =>
            refine ⟨pos + 1, acc ++ (J ++ [10]), by omega, ?_, ?_, hitW, (hbW5.trans (hb5J.mono (by omega))).trans b1⟩
            · rw [← HJ.out, boardRow_join, Hacc.out]
              have hn' := Hnp.out
              obtain rfl | rfl : pos = 0 ∨ pos = 1 := by omega
              · rw [if_pos rfl] at hn'; rw [← hn']; simp
              · rw [if_neg (by omega)] at hn'; rw [← hn']; simp
            · refine Or.inr ?_
              have e1 : Lib.byteCells acc ++ Lib.strCells ({ data := J.toArray } ++ { data := #[10] }) = Lib.byteCells (acc ++ (J ++ [10])) := by
                rw [show (({ data := J.toArray } : ByteArray) ++ { data := #[10] }) = ⟨(J ++ [10]).toArray⟩ from ba_app J [10], Lib.strCells_eq, ← Lib.byteCells_append]
              rw [← e1]; exact h1
          case measure =>
            have e1 : wW.iterPos (w2.heap.size + 1 + 1) = pos + 1 := by simp only [World.iterPos, hitW]
            rw [e1, Hhit.out]; omega
        · have hcp' : (con == (pos : Int)) = false := by simpa using hcp
          have Hcp := Lib.hid hcp
          clear hcp
          have hP9 : Value.string ({ data := #[l] } ++ { data := #[32] }) :: (List.map tval (columns (pos : Int) card hs) ++ [tval [61], tval (Lib.decDigits n)]) = (boardParts first con pos n (columns pos card hs)).map tval := by
            rw [Hsl.out]; simp [boardParts, Hcp.out]
          rw [hP9] at hown8
          clear hP9
          have hPl : (boardParts first con pos n (columns pos card hs)).length = 1 + card.length + 2 := by
            unfold boardParts
            simp [hcn, Hcp.out]; try omega
          have hjn : (Lib.join (boardParts first con pos n (columns pos card hs)) [32] ++ [10]).length ≤ 200 := by
            rw [boardRow_join]
            exact boardRow_len Hcl.out (by omega) (by omega)
          rw [List.length_append, List.length_singleton] at hjn
          have hj9 := join_own (w := w8) (B := w5.heap.size) (g := g8) (cap := cap8) (P := boardParts first con pos n (columns pos card hs)) (by rw [hPl]; exact hown8) (by omega) (by omega)
          rw [hPl] at hj9
          generalize hJ : Lib.join (boardParts first con pos n (columns pos card hs)) [32] = J at hj9 hjn
          have HJ := Lib.hid hJ
          clear hJ hPl
          have hws := fun (W : World) (hI : Lib.IsBuilderF 89 5 (w2.heap.size + 1) (w2.heap.size + 1) (Lib.byteCells acc) W) (hz : w2.heap.size + 1 ≤ W.heap.size) => Tryd.Builder_WriteString_k (w2.heap.size + 1) (w2.heap.size + 1) (Lib.byteCells acc) ({ data := J.toArray } ++ { data := #[10] }) W hI (by rw [Lib.byteCells_length, ByteArray.size_append]; show acc.length + (J.length + 1) ≤ _; omega) hz
          go_wp2_with (first
            | (go_at_call 50; refine hj9.mono ?_; rintro e wJ ⟨rfl, hbJ⟩; have hb5J := hb58.trans (hbJ.mono hsz58); have hIJ := builder_below hI5 hb5J; have hzJ := hb5J.size; have hitJ : wJ.heap[w2.heap.size + 1 + 1]? = some (.stringIter ⟨#[114, 121]⟩ (pos + 1)) := (hb5J.block _ (by omega)).trans hit5)
            | (go_at_call 49; refine (hws _ hIJ (by omega)).mono ?_; rintro e wW ⟨rfl, h1, b1, k1⟩; have hitW := k1.iter hitJ (by omega); clear k1))
          go_roundw
          case rel =>
            refine ⟨pos + 1, acc ++ (J ++ [10]), by omega, ?_, ?_, hitW, (hbW5.trans (hb5J.mono (by omega))).trans b1⟩
            · rw [← HJ.out, boardRow_join, Hacc.out]
              have hn' := Hnp.out
              obtain rfl | rfl : pos = 0 ∨ pos = 1 := by omega
              · rw [if_pos rfl] at hn'; rw [← hn']; simp
              · rw [if_neg (by omega)] at hn'; rw [← hn']; simp
            · refine Or.inr ?_
              have e1 : Lib.byteCells acc ++ Lib.strCells ({ data := J.toArray } ++ { data := #[10] }) = Lib.byteCells (acc ++ (J ++ [10])) := by
                rw [show (({ data := J.toArray } : ByteArray) ++ { data := #[10] }) = ⟨(J ++ [10]).toArray⟩ from ba_app J [10], Lib.strCells_eq, ← Lib.byteCells_append]
              rw [← e1]; exact h1
          case measure =>
            have e1 : wW.iterPos (w2.heap.size + 1 + 1) = pos + 1 := by simp only [World.iterPos, hitW]
            rw [e1, Hhit.out]; omega
    · obtain rfl : pos = 2 := by omega
      have hnx : ∀ ty, (Instr.next (.pointer (some ⟨w2.heap.size + 1 + 1, 0, none⟩)) true ty).run Tryd.prog wr = .ok (.tuple #[.bool false]) wr := fun ty => Lib.run_next_end_at wr _ _ 2 ty hit (by decide)
      have hzr : w2.heap.size + 1 ≤ wr.heap.size := by have := hbl.size; omega
      have Hacc := Lib.hid hacc
      clear hacc hpts
      go_wp2_with (go_at_call 51; refine (Tryd.Builder_String_any_k (w2.heap.size + 1) (w2.heap.size + 1) acc _ hI hzr).mono ?_; rintro e W1 ⟨rfl, _, b1, _⟩)
      go_ret2
      exact ⟨by rw [Hacc.out]; simp, b_below hBL (hbl.trans b1) (by omega)⟩
theorem pBoard_2 (m : Mt) (first : Int) (A : Option Addr) (cap : Nat) (card : List Ln) (con : Int) (w : World) (hc : Card w A card) (hok : (replay m first card con).2.2 ≠ 0) :
    Calls Tryd.prog 15 #[mval m, .int .i64 first, .slice A card.length cap, .int .i64 con] w fun e w' => e = .returned (.tuple #[tval [], .int .i64 (replay m first card con).2.2]) ∧ Below w.heap.size w w' := by
  have hrep := fun (W : World) (hW : Below w.heap.size w W) => pReplay_any m first A cap card con W (hc.in_.below hW (Nat.le_refl _) |>.to hW.size)
  have hne : ((replay m first card con).2.2 != 0) = true := by simpa using hok
  clear hok
  go_enter Tryd.func15, Tryd.ntmps15
  go_wp2_with (go_at_call 11; refine (hrep _ (by (repeat (first | (with_reducible exact Below.refl _ _) | (with_reducible assumption) | (with_reducible refine b_alloc ?_) | (with_reducible refine b_drew ?_) | (with_reducible refine b_drewN ?_) | (with_reducible refine b_set ?_ (by first | (simp; done) | (dsimp only; omega))) | (with_reducible refine b_call ?_ (by assumption)))))).mono ?_; rintro e w1 ⟨rfl, hb1⟩)
  go_ret2
  exact ⟨rfl, by (repeat (first | (with_reducible exact Below.refl _ _) | (with_reducible assumption) | (with_reducible refine b_alloc ?_) | (with_reducible refine b_drew ?_) | (with_reducible refine b_drewN ?_) | (with_reducible refine b_set ?_ (by first | (simp; done) | (dsimp only; omega))) | (with_reducible refine b_call ?_ (by assumption))))⟩
theorem pBoard_any (m : Mt) (first : Int) (A : Option Addr) (cap : Nat) (card : List Ln) (con : Int) (w : World) (hc : Card w A card) (hcap : card.length ≤ cap) (htab : Tab w) :
    Calls Tryd.prog 15 #[mval m, .int .i64 first, .slice A card.length cap, .int .i64 con] w fun e w' => e = .returned (.tuple #[tval (board m first card con), .int .i64 (replay m first card con).2.2]) ∧ Below w.heap.size w w' := by
  unfold board
  by_cases hok : (replay m first card con).2.2 = 0
  · rw [if_pos hok, hok]
    exact pBoard_1 m first A cap card con w hc hcap htab hok
  · rw [if_neg hok]
    exact pBoard_2 m first A cap card con w hc hok
end Go.Proofs.YtenofigclkbbiaaDoor
