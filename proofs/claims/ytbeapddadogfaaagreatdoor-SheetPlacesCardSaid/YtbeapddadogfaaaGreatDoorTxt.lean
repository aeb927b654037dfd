/-
  The text of a position, and the position of a text (plain Lean): the program's reading is the reference's; each makes the other again.
-/
import Derived.Test.YtbeapddadogfaaaGreatDoorSpec
import Derived.Test.YtbeapddadogfaaaGreatDoorNum
import Derived.Lib.SplitLaws
import Derived.Lib.IndexBytes
set_option linter.unusedVariables false
set_option linter.unusedSimpArgs false
namespace Sheet
open Go.Lib (index indexByte split splitK count decDigits itoa)

/-- A string at the first byte c. -/
def cut (c : UInt8) : List UInt8 → Option (List UInt8 × List UInt8)
  | [] => none
  | b :: r => if b = c then some ([], r) else (cut c r).map (fun p => (b :: p.1, p.2))
theorem cut_none {c : UInt8} : ∀ {s : List UInt8}, cut c s = none → ¬ c ∈ s ∧ index s [c] = -1
  | [], _ => ⟨by simp, by simp [index]⟩
  | b :: r, h => by
    unfold cut at h
    split at h
    · cases h
    · rename_i hb
      have hr : cut c r = none := by simpa using h
      obtain ⟨h1, h2⟩ := cut_none hr
      refine ⟨by simp [h1]; exact fun e => hb e.symm, ?_⟩
      rw [Go.Lib.index_one] at h2 ⊢
      unfold indexByte
      simp [hb, h2]
theorem cut_some {c : UInt8} : ∀ {s a r : List UInt8}, cut c s = some (a, r) → s = a ++ c :: r ∧ ¬ c ∈ a ∧ index s [c] = a.length
  | [], _, _, h => by cases h
  | b :: t, a, r, h => by
    unfold cut at h
    split at h
    · rename_i hb
      subst hb
      cases h
      refine ⟨rfl, by simp, ?_⟩
      rw [Go.Lib.index_one]
      unfold indexByte
      simp
    · rename_i hb
      cases ht : cut c t with
      | none => rw [ht] at h; cases h
      | some p =>
        rw [ht] at h
        cases h
        obtain ⟨h1, h2, h3⟩ := cut_some (a := p.1) (r := p.2) ht
        refine ⟨by rw [h1]; simp, by simp [h2]; exact fun e => hb e.symm, ?_⟩
        rw [Go.Lib.index_one] at h3 ⊢
        unfold indexByte
        rw [h3]
        have : ((p.1.length : Int) == -1) = false := by rw [beq_eq_false_iff_ne]; omega
        simp [hb, this]
theorem cut_app {c : UInt8} : ∀ (a r : List UInt8), ¬ c ∈ a → cut c (a ++ c :: r) = some (a, r)
  | [], r, _ => by simp [cut]
  | b :: a, r, h => by
    have hb : ¬ b = c := fun e => h (by simp [e])
    have := cut_app a r (fun hm : c ∈ a => h (by simp [hm]))
    simp [cut, hb, this]
theorem cut_nil {c : UInt8} : ∀ (a : List UInt8), ¬ c ∈ a → cut c a = none
  | [], _ => rfl
  | b :: a, h => by
    have hb : ¬ b = c := fun e => h (by simp [e])
    have := cut_nil a (fun hm : c ∈ a => h (by simp [hm]))
    simp [cut, hb, this]
theorem split_none {c : UInt8} {s : List UInt8} (h : cut c s = none) : split s [c] = [s] := by
  unfold split
  rw [Go.Lib.count_miss (cut_none h).2]
  rfl
theorem split_some {c : UInt8} {s a r : List UInt8} (h : cut c s = some (a, r)) : split s [c] = a :: split r [c] := by
  obtain ⟨h1, h2, h3⟩ := cut_some h
  have hd : s.drop (a.length + [c].length) = r := by rw [h1]; simp [List.drop_append]
  have ht : s.take (a.length + 0) = a := by rw [h1]; simp
  unfold split
  rw [Go.Lib.count_hit (by simp) h3, hd, Nat.add_comm 1]
  conv => lhs; unfold splitK
  have : (index s [c] == -1) = false := by rw [h3, beq_eq_false_iff_ne]; omega
  rw [this]
  simp only [Bool.false_eq_true, if_false]
  rw [h3, Int.toNat_natCast, ht, hd]

/-- The program's stone of a line. -/
def stoneOf (s : List UInt8) : Option Sn :=
  match split s [32] with
  | [p, x, y] =>
    match p with
    | [a, b] =>
      match numOf x, numOf y with
      | some vx, some vy => if 0 ≤ indexByte [114, 121] a ∧ 0 ≤ (b.toNat : Int) - 49 ∧ (b.toNat : Int) - 49 ≤ 7 then some ⟨indexByte [114, 121] a, (b.toNat : Int) - 49, vx, vy⟩ else none
      | _, _ => none
    | _ => none
  | _ => none
/-- The reference's stone of a line. -/
def refLine (s : List UInt8) : Option Sn :=
  match cut 32 s with
  | none => none
  | some (nm, rest) =>
    match cut 32 rest with
    | none => none
    | some (x, y) =>
      match nm with
      | [a, b] =>
        if (a = 114 ∨ a = 121) ∧ 49 ≤ b.toNat ∧ b.toNat ≤ 56 then
          match refInt x, refInt y with
          | some vx, some vy => some ⟨if a = 121 then 1 else 0, (b.toNat : Int) - 49, vx, vy⟩
          | _, _ => none
        else none
      | _ => none
theorem byte_ry (a : UInt8) : indexByte [114, 121] a = if a = 114 then 0 else if a = 121 then 1 else -1 := by
  by_cases h1 : a = 114
  · subst h1; rfl
  · by_cases h2 : a = 121
    · subst h2; rfl
    · have e1 : ((114 : UInt8) == a) = false := by rw [beq_eq_false_iff_ne]; exact fun e => h1 e.symm
      have e2 : ((121 : UInt8) == a) = false := by rw [beq_eq_false_iff_ne]; exact fun e => h2 e.symm
      simp [indexByte, e1, e2, h1, h2]
theorem space_no_int {y : List UInt8} (h : 32 ∈ y) : numOf y = none := by
  cases hi : numOf y with
  | none => rfl
  | some v =>
    obtain ⟨h1, _⟩ := (numOf_iff y v).1 hi
    exfalso
    rw [← h1] at h
    have hdig : ∀ u, ∀ c ∈ decDigits u, 48 ≤ c.toNat := fun u c hc => by
      obtain ⟨k, hk, rfl⟩ := List.mem_iff_getElem.1 hc
      obtain ⟨d, hd⟩ := Go.Lib.digit_of_decFrom _ 0 u (decFrom_digits u) k _ (List.getElem?_eq_getElem hk)
      exact (Go.Lib.digitVal_eq hd).1
    rcases (by omega : v < 0 ∨ 0 ≤ v) with h0 | h0
    · obtain ⟨u, rfl⟩ : ∃ u : Nat, v = -(u : Int) := ⟨v.natAbs, by omega⟩
      rw [Go.Lib.itoa_neg u (by omega)] at h
      rcases List.mem_cons.1 h with h | h
      · exact absurd h (by decide)
      · exact absurd (hdig u _ h) (by decide)
    · obtain ⟨u, rfl⟩ : ∃ u : Nat, v = (u : Int) := ⟨v.toNat, by omega⟩
      rw [Go.Lib.itoa_nonneg] at h
      exact absurd (hdig u _ h) (by decide)
theorem stone_ref (s : List UInt8) : stoneOf s = refLine s := by
  unfold stoneOf refLine
  cases h1 : cut 32 s with
  | none => rw [split_none h1]
  | some p =>
    obtain ⟨nm, rest⟩ := p
    rw [split_some h1]
    simp only
    cases h2 : cut 32 rest with
    | none => rw [split_none h2]
    | some q =>
      obtain ⟨x, y⟩ := q
      rw [split_some h2]
      simp only
      cases h3 : cut 32 y with
      | none =>
        rw [split_none h3]
        rw [← int_ref x, ← int_ref y]
        match nm with
        | [] => rfl
        | [a] => rfl
        | a :: b :: c :: r => rfl
        | [a, b] =>
          simp only
          rw [byte_ry]
          cases numOf x with
          | none => simp
          | some vx =>
            cases numOf y with
            | none => simp
            | some vy =>
              simp only
              by_cases ha : a = 114
              · subst ha
                simp only [if_true, true_or, true_and]
                by_cases hb : 49 ≤ b.toNat ∧ b.toNat ≤ 56
                · rw [if_pos hb, if_pos (by omega)]; rfl
                · rw [if_neg hb, if_neg (by omega)]
              · by_cases ha' : a = 121
                · subst ha'
                  simp only [if_neg ha, if_true, or_true, true_and]
                  by_cases hb : 49 ≤ b.toNat ∧ b.toNat ≤ 56
                  · rw [if_pos hb, if_pos (by omega)]
                  · rw [if_neg hb, if_neg (by omega)]
                · simp only [if_neg ha, if_neg ha', ha, ha', or_false, false_and, if_false]
                  rfl
      | some t =>
        obtain ⟨y1, y2⟩ := t
        rw [split_some h3]
        have hy : refInt y = none := by
          rw [← int_ref]
          apply space_no_int
          rw [(cut_some h3).1]
          simp
        have hne : ∀ r, split r [32] ≠ [] := fun r e => by
          cases hr : cut 32 r with
          | none => rw [split_none hr] at e; cases e
          | some z => obtain ⟨z1, z2⟩ := z; rw [split_some hr] at e; cases e
        cases hs : split y2 [32] with
        | nil => exact absurd hs (hne y2)
        | cons z zs =>
          rw [hy]
          match nm with
          | [] => rfl
          | [a] => rfl
          | a :: b :: c :: r => rfl
          | [a, b] =>
            simp only
            split
            · cases refInt x <;> rfl
            · rfl

/-- The lines, one after another: the position, or where it stops. -/
def parseGo : Nat → List Sn → Nat → List UInt8 → Except Nat (List Sn)
  | 0, acc, _, _ => .ok acc
  | k + 1, acc, at_, s =>
    if s = [] then .ok acc else
    match cut 10 s with
    | none => .error at_
    | some (line, rest) =>
      match stoneOf line with
      | none => .error at_
      | some x => if acc.length = 16 then .error at_ else parseGo k (acc ++ [x]) (at_ + line.length + 1) rest
def parse (s : List UInt8) : List Sn × Int × Int :=
  if 2000 < s.length then ([], 0, 3) else
  match parseGo (s.length + 1) [] 0 s with
  | .error a => ([], (a : Int), 5)
  | .ok l => if check l = true then (l, 0, 0) else ([], (s.length : Int), 2)
def lineOf (s : Sn) : List UInt8 := (if s.team = 0 then 114 else 121) :: (itoa (s.n + 1) ++ 32 :: (itoa s.x ++ 32 :: (itoa s.y ++ [10])))
def textOf (l : List Sn) : List UInt8 := (l.map lineOf).flatten
def print (l : List Sn) : List UInt8 × Int := if check l = true then (textOf l, 0) else ([], 2)

theorem soundFrom_ok : ∀ (l pre : List Sn), soundFrom pre l = true → ∀ s ∈ l, s.ok = true
  | [], _, _, s, hs => by cases hs
  | a :: r, pre, h, s, hs => by
    simp only [soundFrom, Bool.and_eq_true] at h
    rcases List.mem_cons.1 hs with rfl | hs
    · exact h.1.1
    · exact soundFrom_ok r _ h.2 s hs
theorem check_ok {l : List Sn} (h : check l = true) : l.length ≤ 16 ∧ ∀ s ∈ l, s.ok = true := by
  unfold check at h
  simp only [Bool.and_eq_true, decide_eq_true_eq] at h
  exact ⟨h.1.1, soundFrom_ok l [] h.1.2⟩
theorem ok_bounds {s : Sn} (h : s.ok = true) : (s.team = 0 ∨ s.team = 1) ∧ 0 ≤ s.n ∧ s.n ≤ 7 ∧ -6553600000 ≤ s.x ∧ s.x ≤ 6553600000 ∧ -6553600000 ≤ s.y ∧ s.y ≤ 6553600000 := by
  simp only [Sn.ok, Sn.valid, vplace, wi, Bool.and_eq_true, decide_eq_true_eq] at h
  omega
theorem itoa_mem {v : Int} {c : UInt8} (h : c ∈ itoa v) : c = 45 ∨ 48 ≤ c.toNat ∧ c.toNat ≤ 57 := by
  have hdig : ∀ u, ∀ c ∈ decDigits u, 48 ≤ c.toNat ∧ c.toNat ≤ 57 := fun u c hc => by
    obtain ⟨k, hk, rfl⟩ := List.mem_iff_getElem.1 hc
    obtain ⟨d, hd⟩ := Go.Lib.digit_of_decFrom _ 0 u (decFrom_digits u) k _ (List.getElem?_eq_getElem hk)
    exact ⟨(Go.Lib.digitVal_eq hd).1, (Go.Lib.digitVal_eq hd).2.1⟩
  rcases (by omega : v < 0 ∨ 0 ≤ v) with h0 | h0
  · obtain ⟨u, rfl⟩ : ∃ u : Nat, v = -(u : Int) := ⟨v.natAbs, by omega⟩
    rw [Go.Lib.itoa_neg u (by omega)] at h
    rcases List.mem_cons.1 h with h | h
    · exact .inl h
    · exact .inr (hdig u _ h)
  · obtain ⟨u, rfl⟩ : ∃ u : Nat, v = (u : Int) := ⟨v.toNat, by omega⟩
    rw [Go.Lib.itoa_nonneg] at h
    exact .inr (hdig u _ h)
theorem itoa_no {v : Int} {c : UInt8} (h1 : c ≠ 45) (h2 : c.toNat < 48) : ¬ c ∈ itoa v := fun h => by
  rcases itoa_mem h with h | h
  · exact h1 h
  · omega
/-- What a line is, without its end. -/
def bodyLine (s : Sn) : List UInt8 := (if s.team = 0 then 114 else 121) :: (itoa (s.n + 1) ++ 32 :: (itoa s.x ++ 32 :: itoa s.y))
theorem lineOf_body (s : Sn) : lineOf s = bodyLine s ++ [10] := by simp [lineOf, bodyLine]
theorem body_no_end (s : Sn) : ¬ (10 : UInt8) ∈ bodyLine s := by
  unfold bodyLine
  have h1 := itoa_no (v := s.n + 1) (c := 10) (by decide) (by decide)
  have h2 := itoa_no (v := s.x) (c := 10) (by decide) (by decide)
  have h3 := itoa_no (v := s.y) (c := 10) (by decide) (by decide)
  simp [h1, h2, h3]
  split <;> decide
theorem digit_of {n : Int} (h0 : 0 ≤ n) (h7 : n ≤ 7) : itoa (n + 1) = [UInt8.ofNat (49 + n.toNat)] := by
  obtain ⟨u, rfl⟩ : ∃ u : Nat, n = (u : Int) := ⟨n.toNat, by omega⟩
  rw [show (u : Int) + 1 = ((u + 1 : Nat) : Int) by omega, Go.Lib.itoa_nonneg, Go.Lib.decDigits_one (by omega)]
  congr 2
  omega
theorem stone_body (s : Sn) (h : s.ok = true) : stoneOf (bodyLine s) = some s := by
  obtain ⟨ht, hn0, hn7, hx1, hx2, hy1, hy2⟩ := ok_bounds h
  obtain ⟨t, n, x, y⟩ := s
  simp only at ht hn0 hn7 hx1 hx2 hy1 hy2
  have hc1 : cut 32 (bodyLine ⟨t, n, x, y⟩) = some ([if t = 0 then 114 else 121, UInt8.ofNat (49 + n.toNat)], itoa x ++ 32 :: itoa y) := by
    unfold bodyLine
    simp only
    rw [digit_of hn0 hn7, ← List.cons_append, cut_app]
    intro hm
    rcases List.mem_cons.1 hm with hm | hm
    · split at hm <;> exact absurd hm (by decide)
    · have hm := List.mem_singleton.1 hm
      have := congrArg UInt8.toNat hm
      simp at this
      omega
  have hc2 : cut 32 (itoa x ++ 32 :: itoa y) = some (itoa x, itoa y) := cut_app _ _ (itoa_no (by decide) (by decide))
  have hc3 : cut 32 (itoa y) = none := cut_nil _ (itoa_no (by decide) (by decide))
  unfold stoneOf
  rw [split_some hc1, split_some hc2, split_none hc3]
  simp only
  rw [(numOf_iff _ x).2 ⟨rfl, by omega⟩, (numOf_iff _ y).2 ⟨rfl, by omega⟩, byte_ry]
  have hb : (UInt8.ofNat (49 + n.toNat)).toNat = 49 + n.toNat := by simp; omega
  simp only [hb]
  rcases ht with rfl | rfl
  · simp only [if_true]
    rw [if_pos (by omega)]
    congr 2
    omega
  · have e1 : ((1 : Int) = 0) = False := by simp
    have e2 : ((121 : UInt8) = 114) = False := by decide
    simp only [e1, e2, if_false, if_true]
    rw [if_pos (by omega)]
    congr 2
    omega
theorem parse_text : ∀ (l acc : List Sn) (k at_ : Nat), (∀ s ∈ l, s.ok = true) → acc.length + l.length ≤ 16 → l.length < k → parseGo k acc at_ (textOf l) = .ok (acc ++ l)
  | [], acc, k, at_, _, _, hk => by
    obtain ⟨k, rfl⟩ : ∃ j, k = j + 1 := ⟨k - 1, by simp at hk; omega⟩
    simp [parseGo, textOf]
  | s :: r, acc, k, at_, hok, hl, hk => by
    obtain ⟨k, rfl⟩ : ∃ j, k = j + 1 := ⟨k - 1, by simp at hk; omega⟩
    have e : textOf (s :: r) = bodyLine s ++ 10 :: textOf r := by
      unfold textOf
      rw [List.map_cons, List.flatten_cons, lineOf_body]
      simp
    rw [e]
    unfold parseGo
    rw [if_neg (by simp), cut_app _ _ (body_no_end s)]
    simp only
    rw [stone_body s (hok s (by simp))]
    simp only
    rw [if_neg (by simp at hl; omega), parse_text r (acc ++ [s]) k _ (fun x hx => hok x (by simp [hx])) (by simp at hl ⊢; omega) (by simp at hk; omega)]
    simp
theorem line_len (s : Sn) (h : s.ok = true) : (lineOf s).length ≤ 48 ∧ 1 ≤ (lineOf s).length := by
  obtain ⟨ht, hn0, hn7, hx1, hx2, hy1, hy2⟩ := ok_bounds h
  have hlen : ∀ v : Int, v.natAbs < 10 ^ 18 → (itoa v).length ≤ 19 := fun v hv => by
    rcases (by omega : v < 0 ∨ 0 ≤ v) with h0 | h0
    · obtain ⟨u, rfl⟩ : ∃ u : Nat, v = -(u : Int) := ⟨v.natAbs, by omega⟩
      rw [Go.Lib.itoa_neg u (by omega)]
      have := (digits_length u).2 (by omega)
      simp; omega
    · obtain ⟨u, rfl⟩ : ∃ u : Nat, v = (u : Int) := ⟨v.toNat, by omega⟩
      rw [Go.Lib.itoa_nonneg]
      have := (digits_length u).2 (by omega)
      omega
  have h1 := hlen s.x (by omega)
  have h2 := hlen s.y (by omega)
  unfold lineOf
  rw [digit_of hn0 hn7]
  simp
  omega
theorem text_len : ∀ (l : List Sn), (∀ s ∈ l, s.ok = true) → (textOf l).length ≤ 48 * l.length ∧ l.length ≤ (textOf l).length
  | [], _ => by simp [textOf]
  | s :: r, h => by
    have h1 := line_len s (h s (by simp))
    have h2 := text_len r (fun x hx => h x (by simp [hx]))
    unfold textOf at h2 ⊢
    simp only [List.map_cons, List.flatten_cons, List.length_append, List.length_cons]
    omega
/-- The text of a position makes the position again. -/
theorem parse_print (l : List Sn) (h : check l = true) : parse (print l).1 = (l, 0, 0) := by
  obtain ⟨hl, hok⟩ := check_ok h
  have hlen := text_len l hok
  unfold print
  rw [if_pos h]
  show parse (textOf l) = _
  unfold parse
  have hlen2 : ¬ 2000 < (textOf l).length := by omega
  rw [if_neg hlen2, parse_text l [] _ 0 hok (by simpa using hl) (by omega)]
  simp only [List.nil_append]
  rw [if_pos h]
theorem stone_back (s : List UInt8) (x : Sn) (h : stoneOf s = some x) (hok : x.ok = true) : s = bodyLine x := by
  rw [stone_ref] at h
  unfold refLine at h
  cases h1 : cut 32 s with
  | none => rw [h1] at h; cases h
  | some p =>
    obtain ⟨nm, rest⟩ := p
    rw [h1] at h
    simp only at h
    cases h2 : cut 32 rest with
    | none => rw [h2] at h; cases h
    | some q =>
      obtain ⟨sx, sy⟩ := q
      rw [h2] at h
      simp only at h
      match nm with
      | [] => cases h
      | [a] => cases h
      | a :: b :: c :: r => cases h
      | [a, b] =>
        simp only at h
        split at h
        · rename_i hc
          obtain ⟨hc1, hc2, hc3⟩ := hc
          cases hx : refInt sx with
          | none => rw [hx] at h; cases h
          | some vx =>
            cases hy : refInt sy with
            | none => rw [hx, hy] at h; cases h
            | some vy =>
              rw [hx, hy] at h
              simp only at h
              have hx' := (refInt_iff sx vx).1 hx
              have hy' := (refInt_iff sy vy).1 hy
              have e := Option.some.inj h
              subst e
              have e1 := (cut_some h1).1
              have e2 := (cut_some h2).1
              rw [e1, e2]
              unfold bodyLine
              simp only
              rw [digit_of (by omega) (by omega), hx'.1, hy'.1]
              have eb : UInt8.ofNat (49 + ((b.toNat : Int) - 49).toNat) = b := by
                rw [show 49 + ((b.toNat : Int) - 49).toNat = b.toNat by omega]
                simp
              rw [eb]
              rcases hc1 with rfl | rfl
              · simp
              · simp
        · cases h
theorem parseGo_text : ∀ (k : Nat) (s : List UInt8) (acc l : List Sn) (at_ : Nat), s.length < k → parseGo k acc at_ s = .ok l → (∀ x ∈ l, x.ok = true) → ∃ m, l = acc ++ m ∧ s = textOf m
  | 0, s, acc, l, at_, hk, _, _ => by omega
  | k + 1, s, acc, l, at_, hk, h, hok => by
    unfold parseGo at h
    split at h
    · rename_i hs
      cases h
      exact ⟨[], by simp, by rw [hs]; rfl⟩
    · cases hc : cut 10 s with
      | none => rw [hc] at h; cases h
      | some p =>
        obtain ⟨line, rest⟩ := p
        rw [hc] at h
        simp only at h
        cases hst : stoneOf line with
        | none => rw [hst] at h; cases h
        | some x =>
          rw [hst] at h
          simp only at h
          split at h
          · cases h
          · have es := (cut_some hc).1
            obtain ⟨m, h1, h2⟩ := parseGo_text k rest (acc ++ [x]) l _ (by rw [es] at hk; simp at hk; omega) h hok
            refine ⟨x :: m, by rw [h1]; simp, ?_⟩
            have hb := stone_back line x hst (hok x (by rw [h1]; simp))
            rw [es, hb, h2]
            unfold textOf
            rw [List.map_cons, List.flatten_cons, lineOf_body]
            simp
/-- The position of a text makes the text again. -/
theorem print_parse (s : List UInt8) (l : List Sn) (at_ : Int) (h : parse s = (l, at_, 0)) : print l = (s, 0) := by
  unfold parse at h
  split at h
  · cases h
  · cases hg : parseGo (s.length + 1) [] 0 s with
    | error a => rw [hg] at h; cases h
    | ok m =>
      rw [hg] at h
      simp only at h
      split at h
      · rename_i hc
        cases h
        obtain ⟨m', h1, h2⟩ := parseGo_text (s.length + 1) s [] l 0 (by omega) hg (check_ok hc).2
        rw [List.nil_append] at h1
        subst h1
        unfold print
        rw [if_pos hc, ← h2]
      · cases h
end Sheet
