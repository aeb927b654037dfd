/-
  A number's text: the reference.
-/
import Derived.Test.YtenofigclkbbiaaDoorC
import Derived.Lib.ItoaNum
import Derived.Laws.IdiomStrings
import Derived.Maps.AppendAt
set_option linter.unusedVariables false
set_option linter.unusedSimpArgs false
namespace Go.Proofs.YtenofigclkbbiaaDoor
open Go.RowKit
open Game
theorem dec_small {u : Nat} (h : u < 10) : Lib.decDigits u = [UInt8.ofNat (48 + u)] := by rw [Lib.decDigits, dif_pos h]
theorem dec_big {u : Nat} (h : ¬ u < 10) : Lib.decDigits u = Lib.decDigits (u / 10) ++ [UInt8.ofNat (48 + u % 10)] := by rw [Lib.decDigits, dif_neg h]
theorem ba_app (a b : List UInt8) : ((⟨a.toArray⟩ : ByteArray) ++ ⟨b.toArray⟩) = ⟨(a ++ b).toArray⟩ := by
  apply ByteArray.ext
  simp
set_option maxHeartbeats 2000000 in
set_option maxRecDepth 100000 in
theorem Number_any (n : Nat) (hn : n ≤ 1000000) (w : World) :
    Calls Tryd.prog 52 #[.int .i64 n] w fun e w' => e = .returned (.string ⟨(Lib.decDigits n).toArray⟩) ∧ Below w.heap.size w w' := by
  go_enter Tryd.func52, Tryd.ntmps52
  go_wp2
  go_loopw [0, 3] (fun i s wr => ∃ (u : Nat) (suf : List UInt8), i = .int .i64 u ∧ s = .string ⟨suf.toArray⟩ ∧ Lib.decDigits n = Lib.decDigits u ++ suf ∧ suf.length + u ≤ n ∧ Below w.heap.size w wr)
    (fun i _ _ => (intOf i).toNat)
  case atStart => exact ⟨n, [], rfl, rfl, by simp, by simp, Below.refl _ _⟩
  case round =>
    obtain ⟨u, suf, rfl, rfl, hd, hl, hB⟩ := hrel
    have hcv : (convert 87 9 (.slice (some ⟨wr.heap.size, 0, none⟩) 1 1)).run Tryd.prog (wr.alloc (.cells #[.int .u8 (48 + (u : Int) % 10)] 5)) = .ok (.string ⟨#[UInt8.ofNat (48 + u % 10)]⟩) (wr.alloc (.cells #[.int .u8 (48 + (u : Int) % 10)] 5)) :=
      run_convert_bytes_back (P := Tryd.prog) (wr.alloc (.cells #[.int .u8 (48 + (u : Int) % 10)] 5)) 87 9 5 ⟨wr.heap.size, 0, none⟩ 1 [UInt8.ofNat (48 + u % 10)] (by kernel_rfl) (by kernel_rfl) (by kernel_rfl) (by
        intro j hj
        refine cell_one_new wr (.int .u8 (48 + (u : Int) % 10)) 5 j _ ?_
        have : j = 0 := by simpa using hj
        subst this
        simp
        omega)
    by_cases hu : u < 10
    · go_wp2
      go_ret
      refine ⟨?_, by (repeat (first | (with_reducible exact Below.refl _ _) | (with_reducible assumption) | (with_reducible refine b_alloc ?_) | (with_reducible refine b_drew ?_) | (with_reducible refine b_drewN ?_) | (with_reducible refine b_set ?_ (by first | (simp; done) | (dsimp only; omega))) | (with_reducible refine b_call ?_ (by assumption))))⟩
      have e1 := ba_app [48 + UInt8.ofNat (u % 10)] suf
      have e2 := ba_app [] ([48 + UInt8.ofNat (u % 10)] ++ suf)
      have hu' : u % 10 = u := by omega
      rw [e1, e2, hd, dec_small hu, hu']
      simp
    · go_wp2
      refine ⟨⟨u / 10, (48 + UInt8.ofNat (u % 10)) :: suf, by simp, ?_, ?_, ?_, by (repeat (first | (with_reducible exact Below.refl _ _) | (with_reducible assumption) | (with_reducible refine b_alloc ?_) | (with_reducible refine b_drew ?_) | (with_reducible refine b_drewN ?_) | (with_reducible refine b_set ?_ (by first | (simp; done) | (dsimp only; omega))) | (with_reducible refine b_call ?_ (by assumption))))⟩, ?_⟩
      · rw [ba_app [48 + UInt8.ofNat (u % 10)] suf]; rfl
      · rw [hd, dec_big hu]
        simp
      · simp; omega
      · simp [intOf]; omega
end Go.Proofs.YtenofigclkbbiaaDoor
