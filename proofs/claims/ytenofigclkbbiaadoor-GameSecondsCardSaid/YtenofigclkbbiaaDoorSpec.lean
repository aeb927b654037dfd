/-
  Layer 8 in plain Lean: matches, lines, standings; what a card comes to. No program in sight.
-/
namespace Go.Proofs.YtenofigclkbbiaaDoor
namespace Game

structure Mt where
  ends : Int
  most : Int
  early : Int
  change : Bool
  power : Bool
structure Ln where
  team : Int
  points : Int
  power : Bool
  deriving DecidableEq
structure St where
  p0 : Int
  p1 : Int
  ends : Int
  hammer : Int
  winner : Int
  over : Bool
  extra : Bool
  w0 : Bool
  w1 : Bool
  deriving DecidableEq

def St.zero : St := ⟨0, 0, 0, 0, 0, false, false, false, false⟩
def St.begun (first : Int) : St := ⟨0, 0, 0, first, -1, false, false, false, false⟩
def checkMatch (m : Mt) : Bool := decide (1 ≤ m.ends ∧ m.ends ≤ 16 ∧ 1 ≤ m.most ∧ m.most ≤ 8 ∧ 1 ≤ m.early ∧ m.early ≤ m.ends)
/-- Whose power play is gone: of the team that has the hammer. -/
def St.gone (s : St) : Bool := if s.hammer = 0 then s.w0 else s.w1
def fits (m : Mt) (s : St) (x : Ln) : Bool :=
  decide (s.over = false ∧ ((x.team = -1 ∧ x.points = 0) ∨ ((x.team = 0 ∨ x.team = 1) ∧ 1 ≤ x.points ∧ x.points ≤ m.most)) ∧ (x.power = true → m.power = true ∧ s.ends < m.ends ∧ s.gone = false))
/-- The play of a valid line, but for the end of the game. -/
def played (m : Mt) (s : St) (x : Ln) : St :=
  { p0 := if x.team = 0 then s.p0 + x.points else s.p0
    p1 := if x.team = 1 then s.p1 + x.points else s.p1
    ends := s.ends + 1
    hammer := if x.team = -1 then (if m.change = true then 1 - s.hammer else s.hammer) else 1 - x.team
    winner := s.winner
    over := s.over
    extra := decide (m.ends ≤ s.ends + 1)
    w0 := s.w0 || (x.power && decide (s.hammer = 0))
    w1 := s.w1 || (x.power && decide (s.hammer = 1)) }
/-- The game is over. -/
def St.ended (s : St) (winner : Int) : St := { s with over := true, extra := false, hammer := -1, winner := winner }
def behind (m : Mt) (s : St) (x : Ln) : St :=
  let t := played m s x
  if t.extra = true ∧ t.p1 < t.p0 then t.ended 0 else if t.extra = true ∧ t.p0 < t.p1 then t.ended 1 else t
/-- The state behind all lines, and the place of the first line that is not valid; k: how many lines came before. -/
def walk (m : Mt) : St → Nat → List Ln → St × Option Nat
  | s, _, [] => (s, none)
  | s, k, x :: r => if fits m s x = true then walk m (behind m s x) (k + 1) r else (s, some k)
/-- Is a number from one to another one? -/
def wi (a b c : Int) : Bool := decide (b ≤ a ∧ a ≤ c)
/-- What Replay returns: the standing, the index, the error. -/
def replay (m : Mt) (first : Int) (card : List Ln) (conceded : Int) : St × Int × Int :=
  if checkMatch m = false then (St.zero, -1, 2)
  else if wi first 0 1 = false then (St.zero, -1, 2)
  else if wi conceded (-1) 1 = false then (St.zero, -1, 2)
  else if 40 < card.length then (St.zero, -1, 3)
  else match walk m (St.begun first) 0 card with
    | (_, some i) => (St.zero, i, 2)
    | (s, none) =>
      if conceded = -1 then (s, -1, 0)
      else if s.over = true ∨ s.ends < m.early then (St.zero, card.length, 9)
      else (s.ended (1 - conceded), -1, 0)

/-- What holds of a state behind k valid lines. -/
structure Inv (s : St) (k : Nat) : Prop where
  p0 : 0 ≤ s.p0 ∧ s.p0 ≤ 8 * k
  p1 : 0 ≤ s.p1 ∧ s.p1 ≤ 8 * k
  ends : s.ends = k
  ham : s.over = false → s.hammer = 0 ∨ s.hammer = 1
  low : -1 ≤ s.hammer ∧ s.hammer ≤ 1
theorem Inv.begun {first : Int} (h : wi first 0 1 = true) : Inv (St.begun first) 0 := by
  simp [wi] at h
  refine ⟨by simp [St.begun], by simp [St.begun], rfl, fun _ => ?_, ?_⟩ <;> simp only [St.begun] <;> omega
theorem fits_parts {m : Mt} {s : St} {x : Ln} (h : fits m s x = true) : s.over = false ∧ (x.team = -1 ∨ x.team = 0 ∨ x.team = 1) ∧ (x.team = -1 → x.points = 0) ∧ (x.team ≠ -1 → 1 ≤ x.points ∧ x.points ≤ m.most) ∧
    (x.power = true → m.power = true ∧ s.ends < m.ends ∧ s.gone = false) := by
  simp only [fits, decide_eq_true_eq] at h
  obtain ⟨h1, h2, h3⟩ := h
  refine ⟨h1, by omega, by omega, by omega, h3⟩
theorem Inv.behind {m : Mt} {s : St} {x : Ln} {k : Nat} (h : Inv s k) (hf : fits m s x = true) (hm : m.most ≤ 8) : Inv (behind m s x) (k + 1) := by
  obtain ⟨f1, f2, f3, f4, f5⟩ := fits_parts hf
  obtain ⟨a, b, c, d, e⟩ := h
  have d' := d f1
  have q0 : 0 ≤ (played m s x).p0 ∧ (played m s x).p0 ≤ 8 * (k + 1 : Nat) := by simp only [played]; split <;> omega
  have q1 : 0 ≤ (played m s x).p1 ∧ (played m s x).p1 ≤ 8 * (k + 1 : Nat) := by simp only [played]; split <;> omega
  have qe : (played m s x).ends = (k + 1 : Nat) := by simp only [played]; omega
  have qh : (played m s x).hammer = 0 ∨ (played m s x).hammer = 1 := by simp only [played]; split <;> (try split) <;> omega
  simp only [Game.behind]
  split
  · exact ⟨q0, q1, qe, fun h => by simp [St.ended] at h, by simp [St.ended]⟩
  · split
    · exact ⟨q0, q1, qe, fun h => by simp [St.ended] at h, by simp [St.ended]⟩
    · exact ⟨q0, q1, qe, fun _ => qh, by omega⟩
theorem walk_step {m : Mt} {s : St} {k : Nat} {x : Ln} {r : List Ln} (h : fits m s x = true) : walk m s k (x :: r) = walk m (behind m s x) (k + 1) r := by simp [walk, h]
theorem walk_stop {m : Mt} {s : St} {k : Nat} {x : Ln} {r : List Ln} (h : fits m s x = false) : walk m s k (x :: r) = (s, some k) := by simp [walk, h]
theorem drop_at {l : List Ln} {k : Nat} {x : Ln} (h : l[k]? = some x) : l.drop k = x :: l.drop (k + 1) := by
  obtain ⟨hk, e⟩ := List.getElem?_eq_some_iff.1 h
  rw [List.drop_eq_getElem_cons hk, e]
end Game
end Go.Proofs.YtenofigclkbbiaaDoor
