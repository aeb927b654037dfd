/-
  Who counts: the program's Count.
-/
import Derived.Test.YtbeapddadogfaaaGreatDoorN
import Derived.BigRegion
set_option linter.unusedVariables false
set_option linter.unusedSimpArgs false
namespace Go.Proofs.YtbeapddadogfaaaGreatDoor
open Go.RowKit
open Sheet

theorem count_nil {l : List Sn} (h : near l = []) : count l = (-1, 0) := by unfold count; rw [h]
theorem count_none {l : List Sn} {a : Nat} {r : List Nat} (h : near l = a :: r) (hf : (near l).findIdx? (fun i => teamAt l i != teamAt l a) = none) : count l = (teamAt l a, ((near l).length : Int)) := by
  unfold count
  rw [h] at hf ⊢
  simp only [hf]
def ptsOf (l : List Sn) (m : Nat) (far : Int) : Nat := (((near l).take m).takeWhile (fun i => decide (keyAt l i < far))).length
theorem count_some {l : List Sn} {a m : Nat} {r : List Nat} (h : near l = a :: r) (hf : (near l).findIdx? (fun i => teamAt l i != teamAt l a) = some m) :
    count l = if ptsOf l m (keyAt l ((near l)[m]?.getD 0)) = 0 then (-1, 0) else (teamAt l a, (ptsOf l m (keyAt l ((near l)[m]?.getD 0)) : Int)) := by
  unfold count ptsOf
  rw [h] at hf ⊢
  simp only [hf]
theorem tw_len {α : Type} {p : α → Bool} : ∀ (xs : List α) (m k : Nat), k ≤ m → m ≤ xs.length → (∀ j x, j < k → xs[j]? = some x → p x = true) → (k = m ∨ ∃ x, xs[k]? = some x ∧ p x = false) → ((xs.take m).takeWhile p).length = k
  | [], m, k, h1, h2, _, _ => by simp at h2; subst h2; simp; omega
  | a :: r, 0, k, h1, _, _, _ => by simp; omega
  | a :: r, m + 1, 0, _, _, _, h => by
    rcases h with h | ⟨x, hx, hp⟩
    · omega
    · simp at hx
      subst hx
      simp [hp]
  | a :: r, m + 1, k + 1, h1, h2, h3, h4 => by
    have ha : p a = true := h3 0 a (by omega) rfl
    have ih := tw_len r m k (by omega) (by simpa using h2) (fun j x hj hx => h3 (j + 1) x (by omega) (by simpa using hx)) (by
      rcases h4 with h | ⟨x, hx, hp⟩
      · exact .inl (by omega)
      · exact .inr ⟨x, by simpa using hx, hp⟩)
    simp [ha, ih]
def countE (l : List Sn) : Int := if check l = true then 0 else 2
def countR (l : List Sn) : Int × Int := if check l = true then count l else (0, 0)
/-- What Count answers. -/
def CountPost (l : List Sn) (w : World) (e : Ending) (w' : World) : Prop := e = .returned (.tuple #[.int .i64 (countR l).1, .int .i64 (countR l).2, .int .i64 (countE l)]) ∧ Below w.heap.size w w'
set_option maxHeartbeats 2000000 in
set_option maxRecDepth 100000 in
theorem Count_any (A : Option Addr) (cap : Nat) (l : List Sn) (w : World) (hS : Stones w A l) (hcap : l.length ≤ cap) (hc63 : cap ≤ 9223372036854775807) :
    Calls Tryz.prog 30 #[.slice A l.length cap] w (CountPost l w) := by
  have hck := Lib.hid (fun W (h : Below w.heap.size w W) => Check_any A cap l W (hS.below h) hcap hc63)
  cases hch : check l with
  | false =>
    have e1 : countR l = (0, 0) := by unfold countR; rw [if_neg (by rw [hch]; decide)]
    have e2 : countE l = 2 := by unfold countE; rw [if_neg (by rw [hch]; decide)]
    unfold CountPost
    rw [e1, e2]
    rw [hch] at hck
    clear e1 e2 hch hS
    go_enter Tryz.func30, Tryz.ntmps30
    go_wp2_with (go_at_call 28; refine (hck.out _ (by (repeat (first | (with_reducible exact Below.refl _ _) | (with_reducible assumption) | (with_reducible refine b_alloc ?_) | (with_reducible refine b_drew ?_) | (with_reducible refine b_drewN ?_) | (with_reducible refine b_set ?_ (by first | (simp; done) | (dsimp only; omega))) | (with_reducible refine b_call ?_ (by assumption)))))).mono ?_; rintro e w1 ⟨rfl, hb1⟩; obtain ⟨hc1, hf1⟩ := bcell hb1; have z0 : w.heap.size + 1 < w1.heap.size := (by have := hb1.size; (try simp at this); omega))
    have hcC : w1.cell? ⟨w.heap.size + 1, 0, none⟩ = some (.int .i64 0) := (hc1 _ _ (by simp)).trans (by simp [go_sem])
    have hset := World.cell?_setCell_same w1 ⟨w.heap.size + 1, 0, none⟩ (.int .i64 0) hcC
    refine bodyPost_ret (v := .tuple #[.int .i64 0, .int .i64 0, .int .i64 2]) (by simp [results, Tryz.results30, go_sem, hset]) rfl ⟨rfl, ?_⟩
    exact (b_call (b_alloc (b_alloc (Below.refl _ _))) hb1).setCell (p := ⟨w.heap.size + 1, 0, none⟩) (by simp) _
  | true =>
    have e1 : countR l = count l := by unfold countR; rw [if_pos hch]
    have e2 : countE l = 0 := by unfold countE; rw [if_pos hch]
    unfold CountPost
    rw [e1, e2]
    rw [hch] at hck
    have hnear := Lib.hid (fun W (h : Below w.heap.size w W) => nearest_any A cap l W (hS.below h) hch)
    have hcalm := Lib.hid (calm_of hch)
    have h16 : l.length ≤ 16 := by
      unfold check at hch
      simp only [Bool.and_eq_true, decide_eq_true_eq] at hch
      exact hch.1.1
    clear e1 e2 hch
    go_enter Tryz.func30, Tryz.ntmps30
    go_wp2_with (go_at_call 28; refine (hck.out _ (by (repeat (first | (with_reducible exact Below.refl _ _) | (with_reducible assumption) | (with_reducible refine b_alloc ?_) | (with_reducible refine b_drew ?_) | (with_reducible refine b_drewN ?_) | (with_reducible refine b_set ?_ (by first | (simp; done) | (dsimp only; omega))) | (with_reducible refine b_call ?_ (by assumption)))))).mono ?_; rintro e w1 ⟨rfl, hb1⟩; obtain ⟨hc1, hf1⟩ := bcell hb1; have z0 : w.heap.size + 1 < w1.heap.size := (by have := hb1.size; (try simp at this); omega))
    refine (hnear.out w1 (by (repeat (first | (with_reducible exact Below.refl _ _) | (with_reducible assumption) | (with_reducible refine b_alloc ?_) | (with_reducible refine b_drew ?_) | (with_reducible refine b_drewN ?_) | (with_reducible refine b_set ?_ (by first | (simp; done) | (dsimp only; omega))) | (with_reducible refine b_call ?_ (by assumption)))))).mono ?_
    rintro e w2 ⟨v, rfl, hI, hb2⟩
    have hB2 : Below w.heap.size w w2 := b_call (b_call (b_alloc (b_alloc (Below.refl _ _))) hb1) hb2
    have z2 : w.heap.size + 1 < w2.heap.size := by have := hb2.size; omega
    have hT2 : w2.cell? ⟨w.heap.size, 0, none⟩ = some (.slice A l.length cap) := (hb2.cell (p := ⟨w.heap.size, 0, none⟩) (by simp only; omega)).trans ((hc1 _ _ (by simp; omega)).trans (by simp [go_sem]))
    have hC2 : w2.cell? ⟨w.heap.size + 1, 0, none⟩ = some (.int .i64 0) := (hb2.cell (p := ⟨w.heap.size + 1, 0, none⟩) (by simp only; omega)).trans ((hc1 _ _ (by simp)).trans (by simp [go_sem]))
    have fC2 : w2.frozen? ⟨w.heap.size + 1, 0, none⟩ = false := (hb2.frozen (p := ⟨w.heap.size + 1, 0, none⟩) (by simp only; omega)).trans ((hf1 _ _ (by simp)).trans (by simp [go_sem]))
    have hset := fun v => World.cell?_setCell_same w2 ⟨w.heap.size + 1, 0, none⟩ v hC2
    clear hc1 hf1 hck hnear
    cases hnl : near l with
    | nil =>
      have hcn := Lib.hid (count_nil hnl)
      rw [hnl] at hI
      have hset1 := hset (.int .i64 (-1))
      clear hset
      rcases hI with ⟨_, rfl⟩ | ⟨g, cp, rfl, hg1, hg2, hg3, hg4⟩
      all_goals
        go_wp2
        refine bodyPost_ret (v := .tuple #[.int .i64 (-1), .int .i64 0, .int .i64 0]) (by simp [results, Tryz.results30, go_sem, hset1]) rfl ⟨by rw [hcn.out], ?_⟩
        exact hB2.setCell (p := ⟨w.heap.size + 1, 0, none⟩) (by simp) _
    | cons a r =>
      rcases hI with ⟨h, _⟩ | ⟨g, cp, rfl, hg1, hg2, hg3, hg4⟩
      · rw [hnl] at h; cases h
      have hlen : (near l).length ≤ 16 := by
        have h1 := (near_perm l).length_eq
        have h2 := idx_len l 0
        omega
      have hpos : 0 < (near l).length := by rw [hnl]; simp
      have hb0 : (((near l).length : Int) == 0) = false := by rw [beq_eq_false_iff_ne]; omega
      obtain ⟨hal, _⟩ := (mem_near l a).1 (by rw [hnl]; simp)
      have hnlH := Lib.hid hnl
      have c0 := (hg4 0 a (by rw [hnl]; rfl)).1
      obtain ⟨ad, s, rfl, hadb, hs, s0, s1, s2, s3⟩ := (hS.below hB2).at_ hal
      have hts : Hid (teamAt l a = s.team) := by
        show teamAt l a = s.team
        unfold teamAt Sheet.get
        rw [hs]
        rfl
      have hadw : ad.block < w.heap.size := by
        obtain ⟨ad', e, h, _⟩ := hS.2 (by omega)
        cases e
        exact h
      clear hnl hs
      go_wp2_with fail
      go_region
      have hB3 : Below w.heap.size w (w2.setCell ⟨w.heap.size + 1, 0, none⟩ (.int .i64 s.team)).drew := b_drew (hB2.setCell (p := ⟨w.heap.size + 1, 0, none⟩) (by simp) _)
      have hT3 : (w2.setCell ⟨w.heap.size + 1, 0, none⟩ (.int .i64 s.team)).drew.cell? ⟨w.heap.size, 0, none⟩ = some (.slice (some ad) l.length cap) := (World.cell?_setCell_other _ _ _ _ (by simp)).trans hT2
      have hC3 : (w2.setCell ⟨w.heap.size + 1, 0, none⟩ (.int .i64 s.team)).drew.cell? ⟨w.heap.size + 1, 0, none⟩ = some (.int .i64 s.team) := hset (.int .i64 s.team)
      have fC3 : (w2.setCell ⟨w.heap.size + 1, 0, none⟩ (.int .i64 s.team)).drew.frozen? ⟨w.heap.size + 1, 0, none⟩ = false := by rw [← fC2]; exact World.frozen?_setCell _ _ _ _
      have hR3 : RowL (w2.setCell ⟨w.heap.size + 1, 0, none⟩ (.int .i64 s.team)).drew g (near l) := hg4.keep (Below.heap_setCell _ _ _ _ (by simp only; omega))
      have z3 : (w2.setCell ⟨w.heap.size + 1, 0, none⟩ (.int .i64 s.team)).drew.heap.size = w2.heap.size := by simp [World.setCell]
      clear hset hT2 hC2 fC2 s0 s1 s2 s3 c0 hg4 hB2
      go_wp2_with fail
      generalize (w2.setCell ⟨w.heap.size + 1, 0, none⟩ (.int .i64 s.team)).drew = W3 at hB3 hT3 hC3 fC3 hR3 z3 ⊢
      have hix := IndexFunc_count (fun i => teamAt l i != teamAt l a) (.pointer (some ⟨w.heap.size, 0, none⟩)) (.pointer (some ⟨w.heap.size + 1, 0, none⟩)) g cp (near l) W3 hR3 (by omega) (by omega)
        (fun x hx W hW => by
          have := Count1_any (some ad) cap w.heap.size (w.heap.size + 1) l s.team x W (hS.below (b_call hB3 hW)) ((hW.cell (p := ⟨w.heap.size, 0, none⟩) (by simp only; omega)).trans hT3) ((hW.cell (p := ⟨w.heap.size + 1, 0, none⟩) (by simp only; omega)).trans hC3) ((mem_near l x).1 hx).1
          rwa [← hts.out] at this)
      refine hix.mono ?_
      rintro e W4 ⟨rfl, hb4⟩
      have hB4 : Below w.heap.size w W4 := b_call hB3 hb4
      have hT4 := (hb4.cell (p := ⟨w.heap.size, 0, none⟩) (by simp only; omega)).trans hT3
      have hC4 := (hb4.cell (p := ⟨w.heap.size + 1, 0, none⟩) (by simp only; omega)).trans hC3
      have fC4 := (hb4.frozen (p := ⟨w.heap.size + 1, 0, none⟩) (by simp only; omega)).trans fC3
      have hR4 := hR3.keep (hb4.block g (by omega))
      have z4 := hb4.size
      clear hix hT3 hC3 fC3 hR3 hb4 hB3
      have hset4 := fun v => World.cell?_setCell_same W4 ⟨w.heap.size + 1, 0, none⟩ v hC4
      cases hfi : (near l).findIdx? (fun i => teamAt l i != teamAt l a) with
      | none =>
        have hcn := Lib.hid (count_none hnlH.out hfi)
        rw [hts.out] at hcn
        have hset5 := hset4 (.int .i64 s.team)
        clear hset4 hfi
        rw [show idx none = (-1 : Int) from rfl]
        go_wp2
        refine bodyPost_ret (v := .tuple #[.int .i64 s.team, .int .i64 (near l).length, .int .i64 0]) (by simp [results, Tryz.results30, go_sem, hset5]) rfl ⟨by rw [hcn.out], ?_⟩
        exact hB4.setCell (p := ⟨w.heap.size + 1, 0, none⟩) (by simp) _
      | some m =>
        have hcs := Lib.hid (count_some hnlH.out hfi)
        obtain ⟨hml, _, _⟩ := List.findIdx?_eq_some_iff_getElem.1 hfi
        obtain ⟨b, hb⟩ : ∃ b, (near l)[m]? = some b := ⟨_, List.getElem?_eq_getElem hml⟩
        have hbl := ((mem_near l b).1 (List.mem_of_getElem? hb)).1
        obtain ⟨ad', sb, e', _, hsb, sb0, sb1, sb2, sb3⟩ := (hS.below hB4).at_ hbl
        cases e'
        have hkb := get_of hsb
        obtain ⟨q0, q1, q2, q3⟩ := hcalm.out sb (List.mem_of_getElem? hsb)
        rw [hb, Option.getD_some, hts.out] at hcs
        obtain ⟨far, hfar⟩ : ∃ far, far = keyAt l b := ⟨_, rfl⟩
        rw [← hfar] at hcs
        have hfe : Hid (sq sb.x sb.y = far) := by show sq sb.x sb.y = far; rw [hfar, hkb]
        have cb := (hR4 m b hb).1
        have hsz4 : w.heap.size < W4.heap.size := by omega
        have pT : ∀ p : Past W4, p.W.cell? ⟨w.heap.size, 0, none⟩ = some (.slice (some ad) l.length cap) := fun p => (past_cell p _ _ hsz4).trans hT4
        have pb : ∀ p : Past W4, p.W.cell? ⟨g, m, none⟩ = some (.int .i64 b) := fun p => (past_cell p _ _ (by omega)).trans cb
        have hadl : ∀ n, (ad.add n).block < W4.heap.size := fun n => by rw [add_block]; omega
        have px : ∀ p : Past W4, p.W.cell? ⟨(ad.add (b * 4)).block, (ad.add (b * 4)).off + 2, none⟩ = some (.int .i64 sb.x) := fun p => (past_cell p _ _ (hadl _)).trans sb2
        have py : ∀ p : Past W4, p.W.cell? ⟨(ad.add (b * 4)).block, (ad.add (b * 4)).off + 3, none⟩ = some (.int .i64 sb.y) := fun p => (past_cell p _ _ (hadl _)).trans sb3
        have hsq : Hid (∀ W, Calls Tryz.prog 68 #[pval sb.x sb.y] W fun e w' => e = .returned (.int .i64 far) ∧ Below W.heap.size W w') := fun W => by
          have := square_any sb.x sb.y W q0 q1 q2 q3
          rwa [hfe.out] at this
        clear hfi hfar hb hsb hkb sb0 sb1 sb2 sb3 cb hset4
        rw [show idx (some m) = (m : Int) from rfl]
        have hd1 : ((m : Int) < 0) = False := by simp
        go_wp2_with fail
        (refine wp_region_past (by kernel_rfl) (by kernel_rfl) ?_; (repeat (first | go_big_quiet_step ((go_at_call 68; exact past_call _ (hsq.out _))) | quiet_step ((go_at_call 68; exact past_call _ (hsq.out _))))); refine wpQuiet_nil ?_; intro wq hq)
        clear pT pb px py
        go_wp2_with fail
        have hmn : m < (near l).length := hml
        go_loopw [3] (fun v wr => ∃ k : Nat, k ≤ m ∧ v = .int .i64 k ∧ Hid (∀ j x, j < k → (near l)[j]? = some x → decide (keyAt l x < far) = true) ∧ Hid (Below W4.heap.size W4 wr))
          (fun v _ => m - (intOf v).toNat)
        case atStart => exact ⟨0, by omega, rfl, fun j x hj => by omega, hq⟩
        case round =>
          clear hq
          obtain ⟨k, hkm, rfl, hall, hq0⟩ := hrel
          have hBr : Below w.heap.size w wr := b_call hB4 hq0.out
          have zr := hq0.out.size
          have hTr : wr.cell? ⟨w.heap.size, 0, none⟩ = some (.slice (some ad) l.length cap) := (hq0.out.cell (p := ⟨w.heap.size, 0, none⟩) (by simp only; omega)).trans hT4
          have hCr : wr.cell? ⟨w.heap.size + 1, 0, none⟩ = some (.int .i64 s.team) := (hq0.out.cell (p := ⟨w.heap.size + 1, 0, none⟩) (by simp only; omega)).trans hC4
          have fCr : wr.frozen? ⟨w.heap.size + 1, 0, none⟩ = false := (hq0.out.frozen (p := ⟨w.heap.size + 1, 0, none⟩) (by simp only; omega)).trans fC4
          rcases Nat.lt_or_ge k m with hlt | hge
          · have hd3 : decide ((k : Int) < (m : Int)) = true := decide_eq_true (by omega)
            obtain ⟨x, hx⟩ : ∃ x, (near l)[k]? = some x := ⟨_, List.getElem?_eq_getElem (by omega)⟩
            have hxl := ((mem_near l x).1 (List.mem_of_getElem? hx)).1
            obtain ⟨ad', sx, e', _, hsx, sx0, sx1, sx2, sx3⟩ := (hS.below hBr).at_ hxl
            cases e'
            have hkx := get_of hsx
            obtain ⟨q0', q1', q2', q3'⟩ := hcalm.out sx (List.mem_of_getElem? hsx)
            have cx := (hq0.out.cell (p := ⟨g, k, none⟩) (by simp only; omega)).trans (hR4 k x hx).1
            have pT : ∀ p : Past wr, p.W.cell? ⟨w.heap.size, 0, none⟩ = some (.slice (some ad) l.length cap) := fun p => (past_cell p _ _ (by omega)).trans hTr
            have px : ∀ p : Past wr, p.W.cell? ⟨g, k, none⟩ = some (.int .i64 x) := fun p => (past_cell p _ _ (by omega)).trans cx
            have hadl : ∀ n, (ad.add n).block < wr.heap.size := fun n => by rw [add_block]; omega
            have pX : ∀ p : Past wr, p.W.cell? ⟨(ad.add (x * 4)).block, (ad.add (x * 4)).off + 2, none⟩ = some (.int .i64 sx.x) := fun p => (past_cell p _ _ (hadl _)).trans sx2
            have pY : ∀ p : Past wr, p.W.cell? ⟨(ad.add (x * 4)).block, (ad.add (x * 4)).off + 3, none⟩ = some (.int .i64 sx.y) := fun p => (past_cell p _ _ (hadl _)).trans sx3
            obtain ⟨kx, hkxe⟩ : ∃ kx, kx = keyAt l x := ⟨_, rfl⟩
            have hsq2 : Hid (∀ W, Calls Tryz.prog 68 #[pval sx.x sx.y] W fun e w' => e = .returned (.int .i64 kx) ∧ Below W.heap.size W w') := fun W => by
              have := square_any sx.x sx.y W q0' q1' q2' q3'
              rwa [← hkx, ← hkxe] at this
            have hkxH := Lib.hid hkxe
            have hxH := Lib.hid hx
            clear hx hsx hkx hkxe sx0 sx1 sx2 sx3 cx hTr
            rcases (by omega : kx < far ∨ far ≤ kx) with hc | hc
            · have hdc : decide (kx < far) = true := decide_eq_true hc
              go_wp2_with fail
              (refine wp_region_past (by kernel_rfl) (by kernel_rfl) ?_; (repeat (first | go_big_quiet_step ((go_at_call 68; exact past_call _ (hsq2.out _))) | quiet_step ((go_at_call 68; exact past_call _ (hsq2.out _))))); refine wpQuiet_nil ?_; intro wq hq)
              clear pT px pX pY
              go_wp2
              go_roundw
              case rel =>
                refine ⟨k + 1, by omega, by go_num, ?_, b_call (w := W4) hq0.out hq⟩
                intro j x' hj hx'
                rcases Nat.lt_or_ge j k with h1 | h1
                · exact hall.out j x' h1 hx'
                · obtain rfl : j = k := by omega
                  rw [hxH.out] at hx'
                  cases hx'
                  rw [← hkxH.out]
                  exact hdc
              case measure => simp [intOf]; omega
            · have hdc : decide (kx < far) = false := decide_eq_false (by omega)
              have hpt : Hid (ptsOf l m far = k) := tw_len _ m k hkm (by omega) hall.out (.inr ⟨x, hxH.out, by rw [← hkxH.out]; exact hdc⟩)
              go_wp2_with fail
              (refine wp_region_past (by kernel_rfl) (by kernel_rfl) ?_; (repeat (first | go_big_quiet_step ((go_at_call 68; exact past_call _ (hsq2.out _))) | quiet_step ((go_at_call 68; exact past_call _ (hsq2.out _))))); refine wpQuiet_nil ?_; intro wq hq)
              clear pT px pX pY
              have hCx : wq.cell? ⟨w.heap.size + 1, 0, none⟩ = some (.int .i64 s.team) := (hq.cell (p := ⟨w.heap.size + 1, 0, none⟩) (by simp only; omega)).trans hCr
              have fCx : wq.frozen? ⟨w.heap.size + 1, 0, none⟩ = false := (hq.frozen (p := ⟨w.heap.size + 1, 0, none⟩) (by simp only; omega)).trans fCr
              have hBx : Below w.heap.size w wq := b_call hBr hq
              clear hCr fCr
              rcases Nat.eq_zero_or_pos k with hk0 | hk0
              · subst hk0
                have hbz : ((((0 : Nat) : Int)) == 0) = true := rfl
                have hset6 := World.cell?_setCell_same wq ⟨w.heap.size + 1, 0, none⟩ (.int .i64 (-1)) hCx
                have hfin : Hid (count l = (-1, 0)) := by show count l = _; rw [hcs.out, hpt.out]; rfl
                clear hpt hcs
                go_wp2
                refine bodyPost_ret (v := .tuple #[.int .i64 (-1), .int .i64 0, .int .i64 0]) (by simp [results, Tryz.results30, go_sem, hset6]) rfl ⟨by rw [hfin.out], ?_⟩
                exact hBx.setCell (p := ⟨w.heap.size + 1, 0, none⟩) (by simp) _
              · have hbz : ((k : Int) == 0) = false := by rw [beq_eq_false_iff_ne]; omega
                have hset6 := World.cell?_setCell_same wq ⟨w.heap.size + 1, 0, none⟩ (.int .i64 s.team) hCx
                have hfin : Hid (count l = (s.team, (k : Int))) := by show count l = _; rw [hcs.out, hpt.out, if_neg (by omega)]
                clear hpt hcs
                go_wp2
                refine bodyPost_ret (v := .tuple #[.int .i64 s.team, .int .i64 k, .int .i64 0]) (by simp [results, Tryz.results30, go_sem, hset6]) rfl ⟨by rw [hfin.out], ?_⟩
                exact hBx.setCell (p := ⟨w.heap.size + 1, 0, none⟩) (by simp) _
          · obtain rfl : k = m := by omega
            have hd3 : decide ((k : Int) < (k : Int)) = false := decide_eq_false (by omega)
            have hpt : Hid (ptsOf l k far = k) := tw_len _ k k (Nat.le_refl _) (by omega) hall.out (.inl rfl)
            go_wp2_with fail
            (refine wp_region_past (by kernel_rfl) (by kernel_rfl) ?_; (repeat (first | go_big_quiet_step (fail) | quiet_step (fail))); refine wpQuiet_nil ?_; intro wq hq)
            have hCx : wq.cell? ⟨w.heap.size + 1, 0, none⟩ = some (.int .i64 s.team) := (hq.cell (p := ⟨w.heap.size + 1, 0, none⟩) (by simp only; omega)).trans hCr
            have fCx : wq.frozen? ⟨w.heap.size + 1, 0, none⟩ = false := (hq.frozen (p := ⟨w.heap.size + 1, 0, none⟩) (by simp only; omega)).trans fCr
            have hBx : Below w.heap.size w wq := b_call hBr hq
            clear hCr fCr
            rcases Nat.eq_zero_or_pos k with hk0 | hk0
            · subst hk0
              have hbz : ((((0 : Nat) : Int)) == 0) = true := rfl
              have hset6 := World.cell?_setCell_same wq ⟨w.heap.size + 1, 0, none⟩ (.int .i64 (-1)) hCx
              have hfin : Hid (count l = (-1, 0)) := by show count l = _; rw [hcs.out, hpt.out]; rfl
              clear hpt hcs
              go_wp2
              refine bodyPost_ret (v := .tuple #[.int .i64 (-1), .int .i64 0, .int .i64 0]) (by simp [results, Tryz.results30, go_sem, hset6]) rfl ⟨by rw [hfin.out], ?_⟩
              exact hBx.setCell (p := ⟨w.heap.size + 1, 0, none⟩) (by simp) _
            · have hbz : ((k : Int) == 0) = false := by rw [beq_eq_false_iff_ne]; omega
              have hset6 := World.cell?_setCell_same wq ⟨w.heap.size + 1, 0, none⟩ (.int .i64 s.team) hCx
              have hfin : Hid (count l = (s.team, (k : Int))) := by show count l = _; rw [hcs.out, hpt.out, if_neg (by omega)]
              clear hpt hcs
              go_wp2
              refine bodyPost_ret (v := .tuple #[.int .i64 s.team, .int .i64 k, .int .i64 0]) (by simp [results, Tryz.results30, go_sem, hset6]) rfl ⟨by rw [hfin.out], ?_⟩
              exact hBx.setCell (p := ⟨w.heap.size + 1, 0, none⟩) (by simp) _
end Go.Proofs.YtbeapddadogfaaaGreatDoor
