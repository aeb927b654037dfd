/-
  The board: the reference.
-/
import Derived.Test.YtenofigclkbbiaaDoorBd
import Derived.Deep.DeepCutAuto
set_option linter.unusedVariables false
set_option linter.unusedSimpArgs false
namespace Go.Proofs.YtenofigclkbbiaaDoor
open Go.RowKit
open Game
theorem number_any (n : Nat) (hn : n ≤ 1000000) (w : World) : Calls Tryd.prog 52 #[.int .i64 n] w fun e w' => e = .returned (tval (Lib.decDigits n)) ∧ Below w.heap.size w w' := Number_any n hn w
theorem joinTail_snoc (cs : List (List UInt8)) (k : Nat) (c : List UInt8) (h : cs[k]? = some c) : Lib.joinTail [32] (cs.take (k + 1)) = Lib.joinTail [32] (cs.take k) ++ (32 :: c) := by
  rw [List.take_add_one, h]
  simp [Lib.joinTail]
theorem joinTail_take (cs : List (List UInt8)) (h : ∀ c ∈ cs, c.length ≤ 3) (k : Nat) : (Lib.joinTail [32] (cs.take k)).length ≤ 4 * k := by
  have h1 := joinTail_len (cs := cs.take k) (fun c hc => h c (List.mem_of_mem_take hc))
  have := List.length_take_le k cs
  omega
/-- How a team's row begins. -/
def headOf (t first : Int) : List UInt8 := [if t = 0 then 114 else 121, if first = t then 42 else 32]
theorem boardRow_head (first con t pts : Int) (cs : List (List UInt8)) : boardRow first con t pts cs = headOf t first ++ Lib.joinTail [32] cs ++ ([32, 61, 32] ++ Lib.decDigits pts.toNat) ++ (if con = t then [32, 120] else []) ++ [10] := rfl
theorem ba_lit (a : List UInt8) (b : Array UInt8) : (({ data := a.toArray } : ByteArray) ++ { data := b }) = ⟨(a ++ b.toList).toArray⟩ := by
  have := ba_app a b.toList
  simpa using this
set_option maxHeartbeats 4000000 in
set_option maxRecDepth 100000 in
theorem rBoard_1 (m : Mt) (first : Int) (A : Option Addr) (cap : Nat) (card : List Ln) (con : Int) (w : World) (hc : Card w A card) (hcap : card.length ≤ cap) (hok : (replay m first card con).2.2 = 0) :
    Calls Tryd.prog 16 #[mval m, .int .i64 first, .slice A card.length cap, .int .i64 con] w fun e w' => e = .returned (.tuple #[tval (boardText m first card con), .int .i64 0]) ∧ Below w.heap.size w w' := by
  obtain ⟨h40, hp0, hp1, hpts, hlen⟩ := replay_good hok
  have hrep := fun (W : World) (hW : Below w.heap.size w W) => rReplay_any m first A cap card con W (hc.in_.below hW (Nat.le_refl _) |>.to hW.size)
  have hham := fun (W : World) (hW : Below w.heap.size w W) => rHammers_any m first A cap card W (hc.in_.below hW (Nat.le_refl _) |>.to hW.size) hcap
  rw [hok] at hrep
  have hhl : (hamsOf m first card).length ≤ 41 := by
    unfold hamsOf
    split
    · rw [List.length_append, List.length_map, List.length_range]
      split <;> simp <;> omega
    · simp
  unfold boardText
  generalize (replay m first card con).1 = sd at *
  generalize hamsOf m first card = hs at *
  generalize (replay m first card (-1)).2.2 = er at *
  clear hok
  have hcB := hc.in_
  go_enter Tryd.func16, Tryd.ntmps16
  go_wp2_with (first
    | (go_at_call 12; refine (hrep _ (by (repeat (first | (with_reducible exact Below.refl _ _) | (with_reducible assumption) | (with_reducible refine b_alloc ?_) | (with_reducible refine b_drew ?_) | (with_reducible refine b_drewN ?_) | (with_reducible refine b_set ?_ (by first | (simp; done) | (dsimp only; omega))) | (with_reducible refine b_call ?_ (by assumption)))))).mono ?_; rintro e w1 ⟨rfl, hb1⟩; have hM : MtAt w1 w.heap.size m := (hb1.block _ (by simp)).trans (alloc_at w _); obtain ⟨q0, q1, q2, q3, q4, qf, qz⟩ := hM.cells)
    | (go_at_call 14; refine (hham _ (by (repeat (first | (with_reducible exact Below.refl _ _) | (with_reducible assumption) | (with_reducible refine b_alloc ?_) | (with_reducible refine b_drew ?_) | (with_reducible refine b_drewN ?_) | (with_reducible refine b_set ?_ (by first | (simp; done) | (dsimp only; omega))) | (with_reducible refine b_call ?_ (by assumption)))))).mono ?_; rintro e w2 ⟨v2, rfl, hown2, hb2⟩; obtain ⟨A2, ca2, rfl, hR2, hRb2⟩ := own_rd hown2 (by omega)))
  have hB1 := b_call (b_alloc (Below.refl w.heap.size w)) hb1
  have hB2 := b_call (b_alloc (o := .cells #[.int .i64 sd.p0, .int .i64 sd.p1, .int .i64 sd.ends, .int .i64 sd.hammer, .int .i64 sd.winner, .bool sd.over, .bool sd.extra, .bool sd.w0, .bool sd.w1] 29) hB1) hb2
  have hS2 : StAt w2 w1.heap.size sd := (hb2.block _ (by simp)).trans (alloc_at w1 _)
  have hz2 : w1.heap.size < w2.heap.size := by have := hb2.size; simp at this; omega
  have hC2 := hcB.below hB2 (Nat.le_refl _)
  have hzw := hB2.size
  clear hrep hham q0 q1 q2 q3 q4 qf qz hM hown2 hb1 hb2 hB1 hc hcB
  go_loopw [15, 16] (fun o i wr => ∃ (t : Nat) (acc : List UInt8), t ≤ 2 ∧ i = .int .i64 t ∧ o = tval acc ∧ acc = (if t = 0 then [] else boardRow first con 0 sd.p0 (columns 0 card hs)) ++ (if t = 2 then boardRow first con 1 sd.p1 (columns 1 card hs) else []) ∧ Below w2.heap.size w2 wr)
    (fun _ i _ => 2 - (intOf i).toNat)
  case atStart => exact ⟨0, [], by omega, rfl, rfl, by simp, Below.refl _ _⟩
  case round =>
    obtain ⟨t, acc, ht, rfl, rfl, hacc, hbl⟩ := hrel
    by_cases hlt : t < 2
    · have hal : acc.length ≤ 200 := by
        rw [hacc]
        rw [if_neg (by omega : ¬ t = 2), List.append_nil]
        split
        · simp
        · exact boardRow_len (columns_le hpts) (by rw [columns_len hlen]; exact h40) hp0
      have hcl := columns_le (t := (t : Int)) (hs := hs) hpts
      have hcn := columns_len (t := (t : Int)) hlen
      obtain ⟨n, hn3, hn320, hnp⟩ : ∃ n : Nat, n < 1000 ∧ n ≤ 320 ∧ (if t = 0 then sd.p0 else sd.p1) = n := by
        split
        · exact ⟨sd.p0.toNat, by omega, by omega, by omega⟩
        · exact ⟨sd.p1.toNat, by omega, by omega, by omega⟩
      have hjl := joinTail_take _ hcl
      have Hjl := Lib.hid hjl
      have Hcl := Lib.hid hcl
      have Hnp := Lib.hid hnp
      have Hacc := Lib.hid hacc
      have Hpts := Lib.hid hpts
      have hzr := hbl.size
      clear hpts hcl hnp hacc hjl
      have ht01 : t = 0 ∨ t = 1 := by omega
      have hl1 : ∃ b1 : Bool, ((t : Int) == 1) = b1 ∧ b1 = decide (t = 1) := ⟨_, rfl, by rcases ht01 with rfl | rfl <;> rfl⟩
      have hf1 : ∃ b1 : Bool, (first == (t : Int)) = b1 ∧ b1 = decide (first = (t : Int)) := ⟨_, rfl, by rw [Bool.eq_iff_iff]; simp⟩
      obtain ⟨bl, hbl1, hbl2⟩ := hl1
      obtain ⟨bf, hbf1, hbf2⟩ := hf1
      have Hbl2 := Lib.hid hbl2
      have Hbf2 := Lib.hid hbf2
      clear hbl2 hbf2
      have hd2 : decide ((t : Int) < 2) = true := decide_eq_true (by omega)
      cases bl <;> cases bf
      all_goals
        go_wp2_with fail
        go_loopw [17, 18] (fun s i wx => ∃ k : Nat, k ≤ card.length ∧ i = .int .i64 k ∧ s = tval (headOf t first ++ Lib.joinTail [32] ((columns (t : Int) card hs).take k)) ∧ Below w2.heap.size w2 wx)
          (fun _ i _ => card.length - (intOf i).toNat)
        case atStart =>
          refine ⟨0, by omega, rfl, ?_, hbl⟩
          have e1 := Hbl2.out
          have e2 := Hbf2.out
          rcases ht01 with rfl | rfl <;> simp at e1 e2 <;> simp [headOf, e2, Lib.joinTail] <;> rfl
        case round =>
          obtain ⟨k, hk, rfl, rfl, hB⟩ := hrel
          clear hbl
          have hjl := Hjl.out k
          have hho : (headOf (t : Int) first).length ≤ 2 := by simp [headOf]
          by_cases hlk : k < card.length
          · obtain ⟨ad, x, rfl, hadb, hx, x0, x1, x2⟩ := ((hC2.below hB (by omega)).to (by have := hB.size; omega)).at_ hlk
            obtain ⟨h, hh⟩ : ∃ h, hs[k]? = some h := ⟨_, List.getElem?_eq_getElem (by omega)⟩
            have hx8 := Hpts.out x (List.mem_of_getElem? hx)
            obtain ⟨p, hp⟩ : ∃ p : Nat, x.points = p := ⟨x.points.toNat, by omega⟩
            have hp8 : p ≤ 8 := by omega
            rw [hp] at x1
            obtain ⟨ad2, rfl, hch⟩ := (hR2.below hB hRb2).2 (by omega)
            have hhc := hch k h hh
            have hhb := World.block_lt_of_cell? _ _ hhc
            have hck : (columns (t : Int) card hs)[k]? = some (column t x h) := by simp [columns, List.getElem?_zipWith, hx, hh]
            have Hsn := Lib.hid (joinTail_snoc _ k _ hck)
            have hk0 : (0 : Int) ≤ k := by omega
            have hk1 : (k : Int) < hs.length := by omega
            have hk2 : (k : Int) < card.length := by omega
            have hdl := dec_len2 (n := p) (by omega)
            have e0 : Lib.decDigits 0 = [48] := dec_small (by omega)
            have hnum := fun W => number_any p (by omega) W
            have hnum0 : ∀ W, Calls Tryd.prog 52 #[.int .i64 0] W fun e w' => e = .returned (tval (Lib.decDigits 0)) ∧ Below W.heap.size W w' := fun W => number_any 0 (by omega) W
            rw [e0] at hnum0
            have Hp := Lib.hid hp
            clear hck hch hx hh hp hx8
            by_cases hxt : x.team = (t : Int)
            · have hxt' : (x.team == (t : Int)) = true := by simpa using hxt
              have Hxt := Lib.hid hxt
              clear hxt
              cases hpw : x.power
              · rw [hpw] at x2
                have Hpw := Lib.hid hpw
                clear hpw
                go_wp2_with fail
                refine (hnum _).mono ?_
                rintro e wN ⟨rfl, hbN⟩
                have x2 := (hbN.cell (p := ⟨(ad.add (k * 3)).block, (ad.add (k * 3)).off + 2, none⟩) (by simp only [add_block]; exact hadb)).trans x2
                have hhc := (hbN.cell (p := ad2.add k) hhb).trans hhc
                go_wp2
                go_roundw
                case rel =>
                  refine ⟨k + 1, by omega, by go_num, ?_, by (repeat (first | (with_reducible exact Below.refl _ _) | (with_reducible assumption) | (with_reducible refine b_alloc ?_) | (with_reducible refine b_drew ?_) | (with_reducible refine b_drewN ?_) | (with_reducible refine b_set ?_ (by first | (simp; done) | (dsimp only; omega))) | (with_reducible refine b_call ?_ (by assumption))))⟩
                  rw [Hsn.out]
                  simp [ba_lit, column, e0, Hp.out, Hxt.out, Hpw.out]
                case measure => simp [intOf]; omega
              · rw [hpw] at x2
                have Hpw := Lib.hid hpw
                clear hpw
                by_cases hht : h = (t : Int)
                · have hht' : (h == (t : Int)) = true := by simpa using hht
                  have Hht := Lib.hid hht
                  clear hht
                  go_wp2_with fail
                  refine (hnum _).mono ?_
                  rintro e wN ⟨rfl, hbN⟩
                  have x2 := (hbN.cell (p := ⟨(ad.add (k * 3)).block, (ad.add (k * 3)).off + 2, none⟩) (by simp only [add_block]; exact hadb)).trans x2
                  have hhc := (hbN.cell (p := ad2.add k) hhb).trans hhc
                  go_wp2
                  go_roundw
                  case rel =>
                    refine ⟨k + 1, by omega, by go_num, ?_, by (repeat (first | (with_reducible exact Below.refl _ _) | (with_reducible assumption) | (with_reducible refine b_alloc ?_) | (with_reducible refine b_drew ?_) | (with_reducible refine b_drewN ?_) | (with_reducible refine b_set ?_ (by first | (simp; done) | (dsimp only; omega))) | (with_reducible refine b_call ?_ (by assumption))))⟩
                    rw [Hsn.out]
                    simp [ba_lit, column, e0, Hp.out, Hxt.out, Hpw.out, Hht.out]
                  case measure => simp [intOf]; omega
                · have hht' : (h == (t : Int)) = false := by simpa using hht
                  have Hht := Lib.hid hht
                  clear hht
                  go_wp2_with fail
                  refine (hnum _).mono ?_
                  rintro e wN ⟨rfl, hbN⟩
                  have x2 := (hbN.cell (p := ⟨(ad.add (k * 3)).block, (ad.add (k * 3)).off + 2, none⟩) (by simp only [add_block]; exact hadb)).trans x2
                  have hhc := (hbN.cell (p := ad2.add k) hhb).trans hhc
                  go_wp2
                  go_roundw
                  case rel =>
                    refine ⟨k + 1, by omega, by go_num, ?_, by (repeat (first | (with_reducible exact Below.refl _ _) | (with_reducible assumption) | (with_reducible refine b_alloc ?_) | (with_reducible refine b_drew ?_) | (with_reducible refine b_drewN ?_) | (with_reducible refine b_set ?_ (by first | (simp; done) | (dsimp only; omega))) | (with_reducible refine b_call ?_ (by assumption))))⟩
                    rw [Hsn.out]
                    simp [ba_lit, column, e0, Hp.out, Hxt.out, Hpw.out, Hht.out]
                  case measure => simp [intOf]; omega
            · have hxt' : (x.team == (t : Int)) = false := by simpa using hxt
              have Hxt := Lib.hid hxt
              clear hxt
              cases hpw : x.power
              · rw [hpw] at x2
                have Hpw := Lib.hid hpw
                clear hpw
                go_wp2_with fail
                refine (hnum0 _).mono ?_
                rintro e wN ⟨rfl, hbN⟩
                have x2 := (hbN.cell (p := ⟨(ad.add (k * 3)).block, (ad.add (k * 3)).off + 2, none⟩) (by simp only [add_block]; exact hadb)).trans x2
                have hhc := (hbN.cell (p := ad2.add k) hhb).trans hhc
                go_wp2
                go_roundw
                case rel =>
                  refine ⟨k + 1, by omega, by go_num, ?_, by (repeat (first | (with_reducible exact Below.refl _ _) | (with_reducible assumption) | (with_reducible refine b_alloc ?_) | (with_reducible refine b_drew ?_) | (with_reducible refine b_drewN ?_) | (with_reducible refine b_set ?_ (by first | (simp; done) | (dsimp only; omega))) | (with_reducible refine b_call ?_ (by assumption))))⟩
                  rw [Hsn.out]
                  simp [ba_lit, column, e0, Hp.out, Hxt.out, Hpw.out]
                case measure => simp [intOf]; omega
              · rw [hpw] at x2
                have Hpw := Lib.hid hpw
                clear hpw
                by_cases hht : h = (t : Int)
                · have hht' : (h == (t : Int)) = true := by simpa using hht
                  have Hht := Lib.hid hht
                  clear hht
                  go_wp2_with fail
                  refine (hnum0 _).mono ?_
                  rintro e wN ⟨rfl, hbN⟩
                  have x2 := (hbN.cell (p := ⟨(ad.add (k * 3)).block, (ad.add (k * 3)).off + 2, none⟩) (by simp only [add_block]; exact hadb)).trans x2
                  have hhc := (hbN.cell (p := ad2.add k) hhb).trans hhc
                  go_wp2
                  go_roundw
                  case rel =>
                    refine ⟨k + 1, by omega, by go_num, ?_, by (repeat (first | (with_reducible exact Below.refl _ _) | (with_reducible assumption) | (with_reducible refine b_alloc ?_) | (with_reducible refine b_drew ?_) | (with_reducible refine b_drewN ?_) | (with_reducible refine b_set ?_ (by first | (simp; done) | (dsimp only; omega))) | (with_reducible refine b_call ?_ (by assumption))))⟩
                    rw [Hsn.out]
                    simp [ba_lit, column, e0, Hp.out, Hxt.out, Hpw.out, Hht.out]
                  case measure => simp [intOf]; omega
                · have hht' : (h == (t : Int)) = false := by simpa using hht
                  have Hht := Lib.hid hht
                  clear hht
                  go_wp2_with fail
                  refine (hnum0 _).mono ?_
                  rintro e wN ⟨rfl, hbN⟩
                  have x2 := (hbN.cell (p := ⟨(ad.add (k * 3)).block, (ad.add (k * 3)).off + 2, none⟩) (by simp only [add_block]; exact hadb)).trans x2
                  have hhc := (hbN.cell (p := ad2.add k) hhb).trans hhc
                  go_wp2
                  go_roundw
                  case rel =>
                    refine ⟨k + 1, by omega, by go_num, ?_, by (repeat (first | (with_reducible exact Below.refl _ _) | (with_reducible assumption) | (with_reducible refine b_alloc ?_) | (with_reducible refine b_drew ?_) | (with_reducible refine b_drewN ?_) | (with_reducible refine b_set ?_ (by first | (simp; done) | (dsimp only; omega))) | (with_reducible refine b_call ?_ (by assumption))))⟩
                    rw [Hsn.out]
                    simp [ba_lit, column, e0, Hp.out, Hxt.out, Hpw.out, Hht.out]
                  case measure => simp [intOf]; omega
          · obtain rfl : k = card.length := by omega
            rw [List.take_of_length_le (by omega)] at hjl
            rw [List.take_of_length_le (l := columns (t : Int) card hs) (i := card.length) (by omega)]
            have hSr : StAt wr w1.heap.size sd := hS2.kept (hB.block _ (by omega))
            have hpt : wr.cell? ⟨w1.heap.size, t, none⟩ = some (.int .i64 (n : Int)) := by
              have hn' := Hnp.out
              rcases ht01 with rfl | rfl
              · rw [← hn']; exact hSr.cells.1
              · rw [← hn']; exact hSr.cells.2.1
            have hnum := fun W => number_any n (by omega) W
            have hdl := dec_len3 (n := n) hn3
            have ht0 : (0 : Int) ≤ t := by omega
            clear hSr
            by_cases hcp : con = (t : Int)
            · have hcp' : (con == (t : Int)) = true := by simpa using hcp
              have Hcp := Lib.hid hcp
              clear hcp
              go_wp2_with fail
              refine (hnum _).mono ?_
              rintro e wN ⟨rfl, hbN⟩
              go_wp2
              go_roundw
              case rel =>
                refine ⟨t + 1, acc ++ boardRow first con t n (columns t card hs), by omega, by go_num, ?_, ?_, by (repeat (first | (with_reducible exact Below.refl _ _) | (with_reducible assumption) | (with_reducible refine b_alloc ?_) | (with_reducible refine b_drew ?_) | (with_reducible refine b_drewN ?_) | (with_reducible refine b_set ?_ (by first | (simp; done) | (dsimp only; omega))) | (with_reducible refine b_call ?_ (by assumption))))⟩
                · simp [ba_lit, ba_app, boardRow_head, Hcp.out]
                · rw [Hacc.out]
                  have hn' := Hnp.out
                  rcases ht01 with rfl | rfl
                  · rw [if_pos rfl] at hn'; rw [← hn']; simp
                  · rw [if_neg (by omega)] at hn'; rw [← hn']; simp
              case measure => simp [intOf]; omega
            · have hcp' : (con == (t : Int)) = false := by simpa using hcp
              have Hcp := Lib.hid hcp
              clear hcp
              go_wp2_with fail
              refine (hnum _).mono ?_
              rintro e wN ⟨rfl, hbN⟩
              go_wp2
              go_roundw
              case rel =>
                refine ⟨t + 1, acc ++ boardRow first con t n (columns t card hs), by omega, by go_num, ?_, ?_, by (repeat (first | (with_reducible exact Below.refl _ _) | (with_reducible assumption) | (with_reducible refine b_alloc ?_) | (with_reducible refine b_drew ?_) | (with_reducible refine b_drewN ?_) | (with_reducible refine b_set ?_ (by first | (simp; done) | (dsimp only; omega))) | (with_reducible refine b_call ?_ (by assumption))))⟩
                · simp [ba_lit, ba_app, boardRow_head, Hcp.out]
                · rw [Hacc.out]
                  have hn' := Hnp.out
                  rcases ht01 with rfl | rfl
                  · rw [if_pos rfl] at hn'; rw [← hn']; simp
                  · rw [if_neg (by omega)] at hn'; rw [← hn']; simp
              case measure => simp [intOf]; omega
    · obtain rfl : t = 2 := by omega
      have Hacc := Lib.hid hacc
      clear hacc hpts
      go_wp2
      go_ret2
      exact ⟨by rw [Hacc.out]; simp, b_below hB2 hbl (by omega)⟩
theorem rBoard_2 (m : Mt) (first : Int) (A : Option Addr) (cap : Nat) (card : List Ln) (con : Int) (w : World) (hc : Card w A card) (hok : (replay m first card con).2.2 ≠ 0) :
    Calls Tryd.prog 16 #[mval m, .int .i64 first, .slice A card.length cap, .int .i64 con] w fun e w' => e = .returned (.tuple #[tval [], .int .i64 (replay m first card con).2.2]) ∧ Below w.heap.size w w' := by
  have hrep := fun (W : World) (hW : Below w.heap.size w W) => rReplay_any m first A cap card con W (hc.in_.below hW (Nat.le_refl _) |>.to hW.size)
  have hne : ((replay m first card con).2.2 != 0) = true := by simpa using hok
  clear hok
  go_enter Tryd.func16, Tryd.ntmps16
  go_wp2_with (go_at_call 12; refine (hrep _ (by (repeat (first | (with_reducible exact Below.refl _ _) | (with_reducible assumption) | (with_reducible refine b_alloc ?_) | (with_reducible refine b_drew ?_) | (with_reducible refine b_drewN ?_) | (with_reducible refine b_set ?_ (by first | (simp; done) | (dsimp only; omega))) | (with_reducible refine b_call ?_ (by assumption)))))).mono ?_; rintro e w1 ⟨rfl, hb1⟩)
  go_ret2
  exact ⟨rfl, by (repeat (first | (with_reducible exact Below.refl _ _) | (with_reducible assumption) | (with_reducible refine b_alloc ?_) | (with_reducible refine b_drew ?_) | (with_reducible refine b_drewN ?_) | (with_reducible refine b_set ?_ (by first | (simp; done) | (dsimp only; omega))) | (with_reducible refine b_call ?_ (by assumption))))⟩
theorem rBoard_any (m : Mt) (first : Int) (A : Option Addr) (cap : Nat) (card : List Ln) (con : Int) (w : World) (hc : Card w A card) (hcap : card.length ≤ cap) :
    Calls Tryd.prog 16 #[mval m, .int .i64 first, .slice A card.length cap, .int .i64 con] w fun e w' => e = .returned (.tuple #[tval (board m first card con), .int .i64 (replay m first card con).2.2]) ∧ Below w.heap.size w w' := by
  unfold board
  by_cases hok : (replay m first card con).2.2 = 0
  · rw [if_pos hok, hok]
    exact rBoard_1 m first A cap card con w hc hcap hok
  · rw [if_neg hok]
    exact rBoard_2 m first A cap card con w hc hok
end Go.Proofs.YtenofigclkbbiaaDoor
