/-
  Whether a position is valid: the program's Check.
-/
import Derived.Test.YtbeapddadogfaaaGreatDoorG
set_option linter.unusedVariables false
set_option linter.unusedSimpArgs false
namespace Go.Proofs.YtbeapddadogfaaaGreatDoor
open Go.RowKit
open Sheet

theorem ok_parts {s : Sn} (h : s.ok = true) : wi s.team 0 1 = true ∧ wi s.n 0 7 = true ∧ vplace s.x s.y = true ∧ away s.x s.y = false := by
  simp only [Sn.ok, Sn.valid, Bool.and_eq_true, Bool.not_eq_true'] at h
  exact ⟨h.1.1.1, h.1.1.2, h.1.2, h.2⟩
theorem wi_bd {a b c : Int} (h : wi a b c = true) : b ≤ a ∧ a ≤ c := by simpa [wi] using h
theorem not_ok {s : Sn} (h : s.ok = false) : wi s.team 0 1 = false ∨ (wi s.team 0 1 = true ∧ wi s.n 0 7 = false) ∨ (wi s.team 0 1 = true ∧ wi s.n 0 7 = true ∧ vplace s.x s.y = false) ∨ (wi s.team 0 1 = true ∧ wi s.n 0 7 = true ∧ vplace s.x s.y = true ∧ away s.x s.y = true) := by
  unfold Sn.ok Sn.valid at h
  cases h1 : wi s.team 0 1 <;> cases h2 : wi s.n 0 7 <;> cases h3 : vplace s.x s.y <;> cases h4 : away s.x s.y <;> simp_all
set_option maxHeartbeats 2000000 in
set_option maxRecDepth 100000 in
theorem Check_any (A : Option Addr) (cap : Nat) (l : List Sn) (w : World) (hS : Stones w A l) (hcap : l.length ≤ cap) (hc63 : cap ≤ 9223372036854775807) :
    Calls Tryz.prog 28 #[.slice A l.length cap] w fun e w' => e = .returned (.bool (check l)) ∧ Below w.heap.size w w' := by
  have hmm := @run_makeMap Tryz.prog
  rcases (by omega : 16 < l.length ∨ l.length ≤ 16) with h16 | h16
  · have hr := Lib.hid (check_long h16)
    have hd : decide ((l.length : Int) > 16) = true := decide_eq_true (by omega)
    go_enter Tryz.func28, Tryz.ntmps28
    go_wp2
    go_ret
    exact ⟨ret_bool hr.out.symm, Below.refl _ _⟩
  · have hr := Lib.hid (check_short h16)
    have hd : decide (16 < (l.length : Int)) = false := decide_eq_false (by omega)
    go_enter Tryz.func28, Tryz.ntmps28
    go_wp2
    go_loopw [15] (fun i wr => ∃ k : Nat, k ≤ l.length ∧ i = .int .i64 k ∧ Hid (soundFrom [] l = soundFrom (l.take k) (l.drop k)) ∧ (∃ D, Seen wr w.heap.size k D (l.take k)) ∧ Below w.heap.size w wr)
      (fun i _ => l.length - (intOf i).toNat)
    case atStart => exact ⟨0, by omega, rfl, rfl, ⟨_, seen_made w⟩, by (repeat (first | (with_reducible exact Below.refl _ _) | (with_reducible assumption) | (with_reducible refine b_alloc ?_) | (with_reducible refine b_drew ?_) | (with_reducible refine b_drewN ?_) | (with_reducible refine b_set ?_ (by first | (simp; done) | (dsimp only; omega))) | (with_reducible refine b_call ?_ (by assumption))))⟩
    case round =>
      obtain ⟨k, hk, rfl, hsnd, ⟨D, hseen⟩, hb⟩ := hrel
      by_cases hlt : k < l.length
      · obtain ⟨ad, s, rfl, hadb, hs, c0, c1, c2, c3⟩ := (hS.below hb).at_ hlt
        have hstep := Lib.hid (sound_step hs)
        have hsH := Lib.hid hs
        have hBl := hseen.lt
        have hbl := hb.size
        clear hS hs
        obtain ⟨st, sn, sx, sy⟩ := s
        simp only at c0 c1 c2 c3
        cases hok : (⟨st, sn, sx, sy⟩ : Sn).ok with
        | false =>
          have hno := not_ok hok
          have hfin : Hid (check l = false) := by
            show check l = false
            rw [hr.out, hsnd.out, hstep.out, hok]
            rfl
          simp only at hno
          clear hok hseen
          rcases hno with n1 | ⟨n1, n2⟩ | ⟨n1, n2, n3⟩ | ⟨n1, n2, n3, n4⟩
          · go_wp2_with (go_at_call 63; refine (withini_any _ _ _ _).mono ?_; rintro e w' ⟨rfl, rfl⟩)
            go_ret
            exact ⟨ret_bool hfin.out.symm, by (repeat (first | (with_reducible exact Below.refl _ _) | (with_reducible assumption) | (with_reducible refine b_alloc ?_) | (with_reducible refine b_drew ?_) | (with_reducible refine b_drewN ?_) | (with_reducible refine b_set ?_ (by first | (simp; done) | (dsimp only; omega))) | (with_reducible refine b_call ?_ (by assumption))))⟩
          · go_wp2_with (go_at_call 63; refine (withini_any _ _ _ _).mono ?_; rintro e w' ⟨rfl, rfl⟩)
            go_ret
            exact ⟨ret_bool hfin.out.symm, by (repeat (first | (with_reducible exact Below.refl _ _) | (with_reducible assumption) | (with_reducible refine b_alloc ?_) | (with_reducible refine b_drew ?_) | (with_reducible refine b_drewN ?_) | (with_reducible refine b_set ?_ (by first | (simp; done) | (dsimp only; omega))) | (with_reducible refine b_call ?_ (by assumption))))⟩
          · go_wp2_with (first | (go_at_call 63; refine (withini_any _ _ _ _).mono ?_; rintro e w' ⟨rfl, rfl⟩) | (go_at_call 22; refine (CheckSpot_any _ _ _).mono ?_; rintro e w1 ⟨rfl, hb1⟩; obtain ⟨hc, hf⟩ := bcell hb1; have z0 : wr.heap.size < w1.heap.size := (by have := hb1.size; (try simp at this); omega); have z1 : wr.heap.size + 1 < w1.heap.size := (by have := hb1.size; (try simp at this); omega)))
            go_ret
            exact ⟨ret_bool hfin.out.symm, by (repeat (first | (with_reducible exact Below.refl _ _) | (with_reducible assumption) | (with_reducible refine b_alloc ?_) | (with_reducible refine b_drew ?_) | (with_reducible refine b_drewN ?_) | (with_reducible refine b_set ?_ (by first | (simp; done) | (dsimp only; omega))) | (with_reducible refine b_call ?_ (by assumption))))⟩
          · have hz : ∀ w, Calls Tryz.prog 54 #[pval sx sy] w fun e w' => e = .returned (.int .i64 0) ∧ Below w.heap.size w w' := fun w => by
              have := zone_any sx sy w n3
              rwa [zone_away n4] at this
            go_wp2_with (first | (go_at_call 63; refine (withini_any _ _ _ _).mono ?_; rintro e w' ⟨rfl, rfl⟩) | (go_at_call 22; refine (CheckSpot_any _ _ _).mono ?_; rintro e w1 ⟨rfl, hb1⟩; obtain ⟨hc, hf⟩ := bcell hb1; have z0 : wr.heap.size < w1.heap.size := (by have := hb1.size; (try simp at this); omega); have z1 : wr.heap.size + 1 < w1.heap.size := (by have := hb1.size; (try simp at this); omega)) | (go_at_call 54; refine (hz _).mono ?_; rintro e w2 ⟨rfl, hb2⟩))
            go_ret
            exact ⟨ret_bool hfin.out.symm, by (repeat (first | (with_reducible exact Below.refl _ _) | (with_reducible assumption) | (with_reducible refine b_alloc ?_) | (with_reducible refine b_drew ?_) | (with_reducible refine b_drewN ?_) | (with_reducible refine b_set ?_ (by first | (simp; done) | (dsimp only; omega))) | (with_reducible refine b_call ?_ (by assumption))))⟩
        | true =>
          obtain ⟨n1, n2, n3, n4⟩ := ok_parts hok
          simp only at n1 n2 n3 n4
          obtain ⟨t0, t1⟩ := wi_bd n1
          obtain ⟨k0, k7⟩ := wi_bd n2
          have hz : ∀ w, Calls Tryz.prog 54 #[pval sx sy] w fun e w' => e = .returned (.int .i64 (zone sx sy)) ∧ Below w.heap.size w w' := fun w => zone_any sx sy w n3
          have hzne := (zone_ne sx sy).2 n4
          obtain ⟨z, hze⟩ : ∃ z, z = zone sx sy := ⟨_, rfl⟩
          rw [← hze] at hz hzne
          have hz0 : (z == 0) = false := by simpa using hzne
          clear hze hzne n4
          have hlook := Lib.hid (fun (W : World) (hW : Below wr.heap.size wr W) => (hseen.kept (hW.block _ hBl)).look (t := st) (k := sn) t0 t1 k0 k7)
          cases hfr : (l.take k).any (fun x => x.team == st && x.n == sn) with
          | true =>
            have hfin : Hid (check l = false) := by
              show check l = false
              rw [hr.out, hsnd.out, hstep.out, hok]
              simp only [fresh, hfr]
              rfl
            rw [hfr] at hlook
            clear hok hfr hseen
            go_wp2_with (first | (go_at_call 63; refine (withini_any _ _ _ _).mono ?_; rintro e w' ⟨rfl, rfl⟩) | (go_at_call 22; refine (CheckSpot_any _ _ _).mono ?_; rintro e w1 ⟨rfl, hb1⟩; obtain ⟨hc, hf⟩ := bcell hb1; have z0 : wr.heap.size < w1.heap.size := (by have := hb1.size; (try simp at this); omega); have z1 : wr.heap.size + 1 < w1.heap.size := (by have := hb1.size; (try simp at this); omega)) | (go_at_call 54; refine (hz _).mono ?_; rintro e w2 ⟨rfl, hb2⟩; obtain ⟨hc2, hf2⟩ := bcell hb2; have hl2 := hlook.out w2 (by (repeat (first | (with_reducible exact Below.refl _ _) | (with_reducible assumption) | (with_reducible refine b_alloc ?_) | (with_reducible refine b_drew ?_) | (with_reducible refine b_drewN ?_) | (with_reducible refine b_set ?_ (by first | (simp; done) | (dsimp only; omega))) | (with_reducible refine b_call ?_ (by assumption)))))))
            go_ret
            exact ⟨ret_bool hfin.out.symm, by (repeat (first | (with_reducible exact Below.refl _ _) | (with_reducible assumption) | (with_reducible refine b_alloc ?_) | (with_reducible refine b_drew ?_) | (with_reducible refine b_drewN ?_) | (with_reducible refine b_set ?_ (by first | (simp; done) | (dsimp only; omega))) | (with_reducible refine b_call ?_ (by assumption))))⟩
          | false =>
            have hgo : Hid (soundFrom [] l = soundFrom (l.take (k + 1)) (l.drop (k + 1))) := by
              show soundFrom [] l = _
              rw [hsnd.out, hstep.out, hok]
              simp only [fresh, hfr]
              simp
            have htk : Hid (l.take (k + 1) = l.take k ++ [⟨st, sn, sx, sy⟩]) := by
              show l.take (k + 1) = _
              rw [List.take_add_one, hsH.out]
              rfl
            have hkey := key_name (wf_small t0 (by omega)) (wf_small k0 k7)
            have hfrH := Lib.hid hfr
            rw [hfr] at hlook
            clear hok hfr
            have hseenH := Lib.hid hseen
            clear hseen
            go_wp2_with (first | (go_at_call 63; refine (withini_any _ _ _ _).mono ?_; rintro e w' ⟨rfl, rfl⟩) | (go_at_call 22; refine (CheckSpot_any _ _ _).mono ?_; rintro e w1 ⟨rfl, hb1⟩; obtain ⟨hc, hf⟩ := bcell hb1; have z0 : wr.heap.size < w1.heap.size := (by have := hb1.size; (try simp at this); omega); have z1 : wr.heap.size + 1 < w1.heap.size := (by have := hb1.size; (try simp at this); omega)) | (go_at_call 54; refine (hz _).mono ?_; rintro e w2 ⟨rfl, hb2⟩; obtain ⟨hc2, hf2⟩ := bcell hb2; have z2 : wr.heap.size + 1 < w2.heap.size := (by have := hb2.size; omega); have z3 : wr.heap.size < w2.heap.size := (by omega); have hbW : Below wr.heap.size wr w2 := (by (repeat (first | (with_reducible exact Below.refl _ _) | (with_reducible assumption) | (with_reducible refine b_alloc ?_) | (with_reducible refine b_drew ?_) | (with_reducible refine b_drewN ?_) | (with_reducible refine b_set ?_ (by first | (simp; done) | (dsimp only; omega))) | (with_reducible refine b_call ?_ (by assumption))))); have hl2 := hlook.out w2 hbW; have hS2 := Lib.hid (hseenH.out.kept (hbW.block _ hBl))) | (at_mapUpdate; refine wpList_mapUpdate_own _ rfl _ _ _ 91 rfl 93 4 law_name Tryz.underlying91 _ w.heap.size k D rfl hS2.out.1 (by unfold maxLen; omega) _ _ _ rfl rfl hkey _ [] (plainElem_bool Tryz.underlying4 true) ?_; intro w3 hown3 hgrow3))
            have hS3 := Lib.hid (hS2.out.put (W := w3) (s := ⟨st, sn, sx, sy⟩) t0 t1 k0 k7 hown3)
            have hB3 : Below w.heap.size w w3 := b_grown (b_call hb hbW) hgrow3 (Nat.le_refl _)
            clear hown3 hgrow3 hlook hl2 hS2 hseenH hkey hc hf hc2 hf2 c0 c1 c2 c3
            go_wp2
            go_roundw
            case rel => exact ⟨k + 1, by omega, by go_num, hgo, ⟨_, by rw [htk.out]; exact hS3.out⟩, hB3⟩
            case measure => simp [intOf]; omega
      · obtain rfl : k = l.length := by omega
        have hs0 : soundFrom [] l = true := by
          have := hsnd.out
          rw [List.take_length, List.drop_length] at this
          exact this
        have hov := fun W => Overlap_any A cap l W
        have ho : ∀ W, Below w.heap.size w W → Calls Tryz.prog 24 #[.slice A l.length cap] W fun e w' => e = .returned (.tuple #[.int .i64 (two (overlapFrom 0 l)).1, .int .i64 (two (overlapFrom 0 l)).2]) ∧ Below W.heap.size W w' := fun W hW => Overlap_any A cap l W (hS.below hW) hcap hc63
        have hfin : Hid (check l = decide ((two (overlapFrom 0 l)).1 < 0)) := by
          show check l = _
          rw [hr.out, hs0, two_isNone]
          rfl
        obtain ⟨p, hpe⟩ : ∃ p, p = two (overlapFrom 0 l) := ⟨_, rfl⟩
        rw [← hpe] at ho hfin
        clear hpe hs0 hov hS hseen
        obtain ⟨p1, p2⟩ := p
        go_wp2_with (go_at_call 24; refine (ho _ (by assumption)).mono ?_; rintro e w1 ⟨rfl, hb1⟩)
        go_ret
        exact ⟨ret_bool hfin.out.symm, by (repeat (first | (with_reducible exact Below.refl _ _) | (with_reducible assumption) | (with_reducible refine b_alloc ?_) | (with_reducible refine b_drew ?_) | (with_reducible refine b_drewN ?_) | (with_reducible refine b_set ?_ (by first | (simp; done) | (dsimp only; omega))) | (with_reducible refine b_call ?_ (by assumption))))⟩
end Go.Proofs.YtbeapddadogfaaaGreatDoor
