/-
  Two arrays of two, and two standings, compared.
-/
import Derived.Test.YtenofigclkbbiaaDoorC
import Derived.ChangeKeysEq
set_option linter.unusedVariables false
set_option linter.unusedSimpArgs false
namespace Go.Proofs.YtenofigclkbbiaaDoor
open Go.RowKit
open Game
theorem Tryd.infoInt : (Tryd.prog.info? 3).map (fun i => (i.zero, i.size, i.bytes)) = some (some (.int .i64 0), 1, 8) := by kernel_rfl
theorem Tryd.infoBool : (Tryd.prog.info? 4).map (fun i => (i.zero, i.size, i.bytes)) = some (some (.bool false), 1, 1) := by kernel_rfl
theorem eq_ints (d : Nat) (a b c e : Int) (W : World) : (Op.equalIn (d + 2) 26 (.agg #[.int .i64 a, .int .i64 b]) (.agg #[.int .i64 c, .int .i64 e])).run Tryd.prog W = .ok (a == c && b == e) W := by
  obtain ⟨i0, hi, hz0, hz1, hz2⟩ := info_parts Tryd.infoInt
  refine (run_equalIn_array (P := Tryd.prog) W (d + 1) (e := 3) (n := 2) _ _ (by kernel_rfl) hi).trans ?_
  have hc : Tryd.prog.cellsOf 3 = 1 := by kernel_rfl
  have hu : Tryd.prog.underlying 3 = some (.int .i64) := by kernel_rfl
  have hr : List.range 2 = [0, 1] := rfl
  rw [hc, hr]
  simp only [Op.eqItems, Sem.run_bind]
  simp [run_equalIn_int W d 3 .i64 .i64 _ _ hu, go_sem]
  by_cases h1 : a = c <;> by_cases h2 : b = e <;> simp [h1, h2]
theorem eq_bools (d : Nat) (a b c e : Bool) (W : World) : (Op.equalIn (d + 2) 27 (.agg #[.bool a, .bool b]) (.agg #[.bool c, .bool e])).run Tryd.prog W = .ok (a == c && b == e) W := by
  obtain ⟨i0, hi, hz0, hz1, hz2⟩ := info_parts Tryd.infoBool
  refine (run_equalIn_array (P := Tryd.prog) W (d + 1) (e := 4) (n := 2) _ _ (by kernel_rfl) hi).trans ?_
  have hc : Tryd.prog.cellsOf 4 = 1 := by kernel_rfl
  have hu : Tryd.prog.underlying 4 = some .bool := by kernel_rfl
  have hr : List.range 2 = [0, 1] := rfl
  rw [hc, hr]
  simp only [Op.eqItems, Sem.run_bind]
  simp [run_equalIn_bool W d 4 _ _ hu, go_sem]
  by_cases h1 : a = c <;> by_cases h2 : b = e <;> simp [h1, h2]
theorem eq_ints10 (a b c e : Int) (W : World) : (Op.equalIn 10000 26 (.agg #[.int .i64 a, .int .i64 b]) (.agg #[.int .i64 c, .int .i64 e])).run Tryd.prog W = .ok (a == c && b == e) W := eq_ints 9998 a b c e W
theorem eq_bools10 (a b c e : Bool) (W : World) : (Op.equalIn 10000 27 (.agg #[.bool a, .bool b]) (.agg #[.bool c, .bool e])).run Tryd.prog W = .ok (a == c && b == e) W := eq_bools 9998 a b c e W
theorem eq_st (s t : St) (W : World) : (Op.equalIn 10000 29 (sval s) (sval t)).run Tryd.prog W = .ok (decide (s = t)) W := by
  have h1 := fun (a b c e : Int) (W : World) => eq_ints 9997 a b c e W
  have h2 := fun (a b c e : Bool) (W : World) => eq_bools 9997 a b c e W
  obtain ⟨a0, a1, a2, a3, a4, a5, a6, a7, a8⟩ := s
  obtain ⟨b0, b1, b2, b3, b4, b5, b6, b7, b8⟩ := t
  simp only [Nat.reduceAdd] at h1 h2
  simp [go_sem, h1, h2]
  (repeat' split) <;> simp_all
end Go.Proofs.YtenofigclkbbiaaDoor
