/-
  The board: a line's column, and the list of a team's columns (the program).
-/
import Derived.Test.YtenofigclkbbiaaDoorT
import Derived.Test.YtenofigclkbbiaaDoorI
import Derived.Test.YtenofigclkbbiaaDoorU
import Derived.Test.YtenofigclkbbiaaDoorShelf
set_option linter.unusedVariables false
set_option linter.unusedSimpArgs false
namespace Go.Proofs.YtenofigclkbbiaaDoor
namespace Game
/-- What a line puts into a team's column; h: who has the hammer. -/
def column (t : Int) (x : Ln) (h : Int) : List UInt8 := Lib.decDigits (if x.team = t then x.points.toNat else 0) ++ (if x.power = true ∧ h = t then [112] else [])
def columns (t : Int) (card : List Ln) (hs : List Int) : List (List UInt8) := List.zipWith (column t) card hs
end Game
open Go.RowKit
open Game
theorem dec_len2 {n : Nat} (h : n < 100) : (Lib.decDigits n).length ≤ 2 := by
  by_cases h1 : n < 10
  · rw [dec_small h1]; simp
  · rw [dec_big h1, dec_small (by omega)]; simp
theorem dec_len3 {n : Nat} (h : n < 1000) : (Lib.decDigits n).length ≤ 3 := by
  by_cases h1 : n < 10
  · rw [dec_small h1]; simp
  · have := dec_len2 (n := n / 10) (by omega)
    rw [dec_big h1]; simp; omega
theorem column_len (t : Int) (x : Ln) (h : Int) (hp : 0 ≤ x.points ∧ x.points < 100) : (column t x h).length ≤ 3 := by
  have h1 := dec_len2 (n := if x.team = t then x.points.toNat else 0) (by split <;> omega)
  have h2 : (if x.power = true ∧ h = t then [112] else ([] : List UInt8)).length ≤ 1 := by split <;> simp
  unfold column
  rw [List.length_append]
  omega
theorem column_any (i : Nat) (x : Ln) (T H : Nat) (t : Int) (hs : List Int) (A : Option Addr) (ca : Nat) (h : Int) (w : World) (hT : w.cell? ⟨T, 0, none⟩ = some (.int .i64 t)) (hH : w.cell? ⟨H, 0, none⟩ = some (.slice A hs.length ca))
    (hR : Rd w A hs) (hi : hs[i]? = some h) (hp : 0 ≤ x.points ∧ x.points < 100) :
    Calls Tryd.prog 47 #[.int .i64 i, xval x, .pointer (some ⟨T, 0, none⟩), .pointer (some ⟨H, 0, none⟩)] w fun e w' => e = .returned (.string ⟨(column t x h).toArray⟩) ∧ Below w.heap.size w w' := by
  have hTl := World.block_lt_of_cell? w _ hT
  have hHl := World.block_lt_of_cell? w _ hH
  simp only at hTl hHl
  obtain ⟨hil, hie⟩ := List.getElem?_eq_some_iff.1 hi
  obtain ⟨ad, rfl, hc⟩ := hR.2 (by omega)
  have hcell := hc i h hi
  have hadl := World.block_lt_of_cell? w _ hcell
  have hl := hR.1
  obtain ⟨te, po, pw⟩ := x
  obtain ⟨p, rfl⟩ : ∃ p : Nat, po = p := ⟨po.toNat, by simp only at hp; omega⟩
  have hp' : p < 100 := by simp only at hp; omega
  have hi0 : (0 : Int) ≤ i := by omega
  have hi1 : (i : Int) < hs.length := by omega
  have hdl := dec_len2 hp'
  have e0 : Lib.decDigits 0 = [48] := dec_small (by omega)
  clear hc hi hie hR hp
  by_cases h1 : te = t
  · subst h1
    cases pw
    · go_enter Tryd.func47, Tryd.ntmps47
      go_wp2_with (go_at_call 48; refine (Tryd.strconv_Itoa_small p hp' _).mono ?_; rintro e w' ⟨rfl, rfl⟩)
      go_quiet (fail)
      go_wp2
      go_ret
      exact ⟨by simp [column, e0, ba_app, *], by (repeat (first | (with_reducible exact Below.refl _ _) | (with_reducible assumption) | (with_reducible refine b_alloc ?_) | (with_reducible refine b_drew ?_) | (with_reducible refine b_drewN ?_) | (with_reducible refine b_set ?_ (by first | (simp; done) | (dsimp only; omega))) | (with_reducible refine b_call ?_ (by assumption))))⟩
    · by_cases h2 : h = te
      · subst h2
        go_enter Tryd.func47, Tryd.ntmps47
        go_wp2_with (go_at_call 48; refine (Tryd.strconv_Itoa_small p hp' _).mono ?_; rintro e w' ⟨rfl, rfl⟩)
        go_quiet (fail)
        go_wp2
        go_ret
        exact ⟨by simp [column, e0, ba_app, *], by (repeat (first | (with_reducible exact Below.refl _ _) | (with_reducible assumption) | (with_reducible refine b_alloc ?_) | (with_reducible refine b_drew ?_) | (with_reducible refine b_drewN ?_) | (with_reducible refine b_set ?_ (by first | (simp; done) | (dsimp only; omega))) | (with_reducible refine b_call ?_ (by assumption))))⟩
      · go_enter Tryd.func47, Tryd.ntmps47
        go_wp2_with (go_at_call 48; refine (Tryd.strconv_Itoa_small p hp' _).mono ?_; rintro e w' ⟨rfl, rfl⟩)
        go_quiet (fail)
        go_wp2
        go_ret
        exact ⟨by simp [column, e0, ba_app, *], by (repeat (first | (with_reducible exact Below.refl _ _) | (with_reducible assumption) | (with_reducible refine b_alloc ?_) | (with_reducible refine b_drew ?_) | (with_reducible refine b_drewN ?_) | (with_reducible refine b_set ?_ (by first | (simp; done) | (dsimp only; omega))) | (with_reducible refine b_call ?_ (by assumption))))⟩
  · cases pw
    · go_enter Tryd.func47, Tryd.ntmps47
      go_wp2_with (go_at_call 48; refine (Tryd.strconv_Itoa_small p hp' _).mono ?_; rintro e w' ⟨rfl, rfl⟩)
      go_quiet (fail)
      go_wp2
      go_ret
      exact ⟨by simp [column, e0, ba_app, *], by (repeat (first | (with_reducible exact Below.refl _ _) | (with_reducible assumption) | (with_reducible refine b_alloc ?_) | (with_reducible refine b_drew ?_) | (with_reducible refine b_drewN ?_) | (with_reducible refine b_set ?_ (by first | (simp; done) | (dsimp only; omega))) | (with_reducible refine b_call ?_ (by assumption))))⟩
    · by_cases h2 : h = t
      · subst h2
        go_enter Tryd.func47, Tryd.ntmps47
        go_wp2_with (go_at_call 48; refine (Tryd.strconv_Itoa_small p hp' _).mono ?_; rintro e w' ⟨rfl, rfl⟩)
        go_quiet (fail)
        go_wp2
        go_ret
        exact ⟨by simp [column, e0, ba_app, *], by (repeat (first | (with_reducible exact Below.refl _ _) | (with_reducible assumption) | (with_reducible refine b_alloc ?_) | (with_reducible refine b_drew ?_) | (with_reducible refine b_drewN ?_) | (with_reducible refine b_set ?_ (by first | (simp; done) | (dsimp only; omega))) | (with_reducible refine b_call ?_ (by assumption))))⟩
      · go_enter Tryd.func47, Tryd.ntmps47
        go_wp2_with (go_at_call 48; refine (Tryd.strconv_Itoa_small p hp' _).mono ?_; rintro e w' ⟨rfl, rfl⟩)
        go_quiet (fail)
        go_wp2
        go_ret
        exact ⟨by simp [column, e0, ba_app, *], by (repeat (first | (with_reducible exact Below.refl _ _) | (with_reducible assumption) | (with_reducible refine b_alloc ?_) | (with_reducible refine b_drew ?_) | (with_reducible refine b_drewN ?_) | (with_reducible refine b_set ?_ (by first | (simp; done) | (dsimp only; omega))) | (with_reducible refine b_call ?_ (by assumption))))⟩
theorem Tryd.info9 : (Tryd.prog.info? 9).map (fun i => (i.zero, i.size, i.bytes)) = some (some (.string ⟨#[]⟩), 1, 16) := by kernel_rfl
/-- A text as a value. -/
abbrev tval (c : List UInt8) : Value := .string ⟨c.toArray⟩
theorem columns_len {t : Int} {card : List Ln} {hs : List Int} (h : card.length ≤ hs.length) : (columns t card hs).length = card.length := by simp [columns]; omega
theorem columns_succ {t : Int} {card : List Ln} {hs : List Int} {k : Nat} {x : Ln} {h : Int} (hx : card[k]? = some x) (hh : hs[k]? = some h) : (columns t card hs).take (k + 1) = (columns t card hs).take k ++ [column t x h] := by
  have e : (columns t card hs)[k]? = some (column t x h) := by simp [columns, List.getElem?_zipWith, hx, hh]
  rw [List.take_add_one, e]
  rfl
set_option maxHeartbeats 2000000 in
set_option maxRecDepth 100000 in
theorem mapped_any (card : List Ln) (Ac : Option Addr) (cc : Nat) (T H : Nat) (t : Int) (hs : List Int) (A : Option Addr) (ca : Nat) (w : World) (hC : Card w Ac card) (hT : w.cell? ⟨T, 0, none⟩ = some (.int .i64 t)) (hH : w.cell? ⟨H, 0, none⟩ = some (.slice A hs.length ca))
    (hR : Rd w A hs) (hRb : ∀ ad, A = some ad → ad.block < w.heap.size) (hlen : card.length ≤ hs.length) (h40 : card.length ≤ 40) (hp : ∀ x ∈ card, 0 ≤ x.points ∧ x.points < 100) :
    Calls Tryd.prog 46 #[.slice Ac card.length cc, .func (.func 47) #[] #[.pointer (some ⟨T, 0, none⟩), .pointer (some ⟨H, 0, none⟩)]] w fun e w' =>
      ∃ g cap, e = .returned (.slice (some ⟨g, 0, none⟩) card.length cap) ∧ w'.ownsRow w.heap.size 9 1 (.slice (some ⟨g, 0, none⟩) card.length cap) card.length ((columns t card hs).map tval) ∧ Below w.heap.size w w' := by
  have hTl := World.block_lt_of_cell? w _ hT
  have hHl := World.block_lt_of_cell? w _ hH
  simp only at hTl hHl
  obtain ⟨i0, hi, hz0, hz1, hz2⟩ := info_parts Tryd.info9
  have hcl := fun (W : World) (hW : Below w.heap.size w W) (i : Nat) (x : Ln) (h : Int) => column_any i x T H t hs A ca h W ((hW.cell (p := ⟨T, 0, none⟩) hTl).trans hT) ((hW.cell (p := ⟨H, 0, none⟩) hHl).trans hH) (hR.below hW hRb)
  have hcl' := Lib.hid hcl
  have hp' := Lib.hid hp
  have hcB := hC.in_
  clear hcl hp hT hH hR hRb
  go_enter Tryd.func46, Tryd.ntmps46
  go_wp2_with (at_make; refine wpList_make_own _ rfl _ _ 90 rfl w.heap.size 9 i0 (.string ⟨#[]⟩) 1 (by kernel_rfl) hi hz0 hz1 .i64 .i64 _ card.length rfl rfl rfl (by rw [hz2]; omega) (by unfold maxLen; omega) (Nat.le_refl _) ?_; intro w0 hown0 hgrow0)
  have hb0 : Below w.heap.size w w0 := ⟨hgrow0.os, hgrow0.tape, hgrow0.output, hgrow0.size, fun i hi => hgrow0.block i hi (by simp)⟩
  go_loopw [5, 13] (fun v i wr => ∃ (k : Nat) (g cap : Nat), k ≤ card.length ∧ v = .slice (some ⟨g, 0, none⟩) k cap ∧ i = .int .i64 k ∧ wr.ownsRow w.heap.size 9 1 (.slice (some ⟨g, 0, none⟩) k cap) k (((columns t card hs).take k).map tval) ∧ Below w.heap.size w wr)
    (fun _ i _ => card.length - (intOf i).toNat)
  case atStart => exact ⟨0, w.heap.size, card.length, by omega, rfl, rfl, by simpa using hown0, hb0⟩
  case round =>
    clear hown0 hgrow0 hb0
    obtain ⟨k, gk, capk, hk, rfl, rfl, hown, hB⟩ := hrel
    by_cases hlt : k < card.length
    · obtain ⟨ad, x, rfl, hadb, hx, x0, x1, x2⟩ := ((hcB.below hB (Nat.le_refl _)).to hB.size).at_ hlt
      obtain ⟨h, hh⟩ : ∃ h, hs[k]? = some h := ⟨_, List.getElem?_eq_getElem (by omega)⟩
      have hcol := hcl'.out (wr.alloc (.cells #[.int .i64 x.team, .int .i64 x.points, .bool x.power] 42)) (b_alloc hB) k x h hh (hp'.out x (List.mem_of_getElem? hx))
      have hsucc := Lib.hid (columns_succ (t := t) hx hh)
      have hB' := hB
      go_wp2_with fail
      refine hcol.mono ?_
      rintro e w5 ⟨rfl, hb5⟩
      clear hcol
      have hown5 := own_below (hown.alloc (.cells #[.int .i64 x.team, .int .i64 x.points, .bool x.power] 42)) hb5
      have hB5 := b_call (b_alloc (o := .cells #[.int .i64 x.team, .int .i64 x.points, .bool x.power] 42) hB) hb5
      clear x0 x1 x2 hown
      go_wp2_with (at_builtin; refine wpList_append_own _ rfl _ _ 90 rfl w.heap.size 9 i0 (.string ⟨#[]⟩) 1 16 (by kernel_rfl) hi hz0 hz1 hz2 rfl (by decide) _ _ _ rfl (hown5.alloc _) ⟨w5.heap.size, 0, none⟩ 1 1 [tval (column t x h)] rfl rfl ?c1 ?c2 ?c3 ?c4 ?c5 ?_)
      case c1 => exact cell_one_new _ _ _
      case c2 => intro u hu; simp at hu; subst hu; rfl
      case c3 => unfold maxLen; omega
      case c4 => omega
      case c5 => have := hB5.size; simp; omega
      intro v' w6 hown6 hgr hnn
      have hb6 := own_grow (hown5.alloc _) hgr (by have := hB5.size; simp; omega)
      obtain ⟨g6, cap6, rfl⟩ := own_form hown6 (by omega)
      go_wp2_with fail
      go_roundw
      case rel =>
        refine ⟨k + 1, g6, cap6, by omega, rfl, by go_num, ?_, b_below (b_alloc hB5) hb6 (Nat.le_refl _)⟩
        rw [hsucc.out, List.map_append]
        simpa using hown6
      case measure => simp [intOf]; omega
    · obtain rfl : k = card.length := by omega
      have htk := List.take_of_length_le (l := columns t card hs) (i := card.length) (by rw [columns_len hlen]; omega)
      rw [htk] at hown
      clear htk
      go_wp2
      go_ret
      exact ⟨_, _, rfl, hown, hB⟩
end Go.Proofs.YtenofigclkbbiaaDoor
