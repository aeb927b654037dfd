/-
  Parse by its lines (plain Lean).
-/
import Derived.Test.YtbeapddadogfaaaGreatDoorTxt
import Derived.Lib.SplitLaws
set_option linter.unusedVariables false
set_option linter.unusedSimpArgs false
namespace Sheet
open Go.Lib (index splitK hasSuffix trimSuffix)

/-- The lines, each with its end. -/
def runP : List (List UInt8) → List Sn → Nat → Except Nat (List Sn)
  | [], acc, _ => .ok acc
  | x :: r, acc, at_ =>
    if x = [] then .ok acc else
    if hasSuffix x [10] = true then
      match stoneOf (trimSuffix x [10]) with
      | none => .error at_
      | some s => if acc.length = 16 then .error at_ else runP r (acc ++ [s]) (at_ + x.length)
    else .error at_
theorem suf_no {x : List UInt8} (h : ¬ (10 : UInt8) ∈ x) : hasSuffix x [10] = false := by
  cases hs : hasSuffix x [10] with
  | false => rfl
  | true =>
    unfold hasSuffix at hs
    rw [List.isSuffixOf_iff_suffix] at hs
    obtain ⟨t, rfl⟩ := hs
    exact absurd (by simp) h
theorem suf_yes (x : List UInt8) : hasSuffix (x ++ [10]) [10] = true ∧ trimSuffix (x ++ [10]) [10] = x := by
  have h : hasSuffix (x ++ [10]) [10] = true := by
    unfold hasSuffix
    rw [List.isSuffixOf_iff_suffix]
    exact ⟨x, rfl⟩
  refine ⟨h, ?_⟩
  unfold trimSuffix
  rw [if_pos h]
  simp
theorem run_parse : ∀ (k : Nat) (s : List UInt8) (acc : List Sn) (at_ : Nat), s.length < k → runP (splitK [10] 1 k s) acc at_ = parseGo k acc at_ s
  | 0, _, _, _, h => by omega
  | k + 1, s, acc, at_, h => by
    cases hc : cut 10 s with
    | none =>
      obtain ⟨h1, h2⟩ := cut_none hc
      have hsp : splitK [10] 1 (k + 1) s = [s] := by
        unfold splitK
        rw [h2]
        rfl
      rw [hsp]
      unfold runP parseGo
      rw [hc, suf_no h1]
      rfl
    | some p =>
      obtain ⟨line, rest⟩ := p
      obtain ⟨h1, h2, h3⟩ := cut_some hc
      have hd : s.drop (line.length + [(10 : UInt8)].length) = rest := by rw [h1]; simp [List.drop_append]
      have ht : s.take (line.length + 1) = line ++ [10] := by rw [h1]; simp [List.take_append, List.take_of_length_le]
      have hsp : splitK [10] 1 (k + 1) s = (line ++ [10]) :: splitK [10] 1 k rest := by
        conv => lhs; unfold splitK
        have : (index s [10] == -1) = false := by rw [h3, beq_eq_false_iff_ne]; omega
        rw [this]
        simp only [Bool.false_eq_true, if_false]
        rw [h3, Int.toNat_natCast, ht, hd]
      rw [hsp]
      unfold runP parseGo
      rw [hc, (suf_yes line).1, (suf_yes line).2]
      have hne : ¬ s = [] := by rw [h1]; simp
      have hne' : ¬ line ++ [(10 : UInt8)] = [] := by simp
      rw [if_neg hne, if_neg hne', if_pos rfl]
      simp only
      cases stoneOf line with
      | none => rfl
      | some x =>
        simp only
        have hl : s.length = line.length + 1 + rest.length := by rw [h1]; simp; omega
        split
        · rfl
        · refine (run_parse k rest (acc ++ [x]) (at_ + (line ++ [10]).length) (by omega)).trans ?_
          simp [Nat.add_assoc]
theorem runP_empty (r : List (List UInt8)) (acc : List Sn) (at_ : Nat) : runP ([] :: r) acc at_ = .ok acc := rfl
theorem runP_no {x : List UInt8} {r : List (List UInt8)} {acc : List Sn} {at_ : Nat} (h : x ≠ []) (hs : hasSuffix x [10] = false) : runP (x :: r) acc at_ = .error at_ := by
  unfold runP
  rw [if_neg h, hs]
  rfl
theorem runP_bad {x : List UInt8} {r : List (List UInt8)} {acc : List Sn} {at_ : Nat} (h : x ≠ []) (ho : stoneOf (trimSuffix x [10]) = none) : runP (x :: r) acc at_ = .error at_ := by
  unfold runP
  rw [if_neg h, ho]
  split <;> rfl
theorem runP_full {x : List UInt8} {r : List (List UInt8)} {acc : List Sn} {at_ : Nat} (h : x ≠ []) (hl : acc.length = 16) : runP (x :: r) acc at_ = .error at_ := by
  unfold runP
  rw [if_neg h]
  split
  · split
    · rfl
    · first | rfl | (rw [if_pos hl])
  · rfl
theorem runP_go {x : List UInt8} {r : List (List UInt8)} {acc : List Sn} {at_ : Nat} {s : Sn} (h : x ≠ []) (hs : hasSuffix x [10] = true) (ho : stoneOf (trimSuffix x [10]) = some s) (hl : acc.length ≠ 16) :
    runP (x :: r) acc at_ = runP r (acc ++ [s]) (at_ + x.length) := by
  conv => lhs; unfold runP
  rw [if_neg h, if_pos hs, ho]
  simp only
  rw [if_neg hl]
end Sheet
