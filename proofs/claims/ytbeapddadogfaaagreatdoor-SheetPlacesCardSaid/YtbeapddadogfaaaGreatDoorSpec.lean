/-
  The playing end of a sheet in plain Lean: places, zones, contacts, positions, the order of the stones in the house, who counts.
-/
namespace Sheet
structure Sn where
  team : Int
  n : Int
  x : Int
  y : Int
deriving DecidableEq
def sz (a : Int) : Int := max a (-a)
def wi (a b c : Int) : Bool := decide (b ≤ a ∧ a ≤ c)
def vplace (x y : Int) : Bool := wi x (-6553600000) 6553600000 && wi y (-6553600000) 6553600000
def away (x y : Int) : Bool := decide (155648000 ≤ sz x + 9502720) || decide (119865344 < y - 9502720) || decide (y - 9502720 ≤ -419495936)
def sq (x y : Int) : Int := x * x + y * y
def zone (x y : Int) : Int := if away x y = true then 0 else if sq x y ≤ 16736095983108096 then 2 else if y + 9502720 < 0 then 1 else 3
def contact (dx dy : Int) : Int := if 19005440 < max (sz dx) (sz dy) then 1 else if sq dx dy < 361206749593600 then -1 else if 361206749593600 < sq dx dy then 1 else 0
def Sn.valid (s : Sn) : Bool := vplace s.x s.y
def Sn.housed (s : Sn) : Bool := zone s.x s.y == 2
def Sn.key (s : Sn) : Int := sq s.x s.y
def clash (a b : Sn) : Bool := a.valid && b.valid && contact (a.x - b.x) (a.y - b.y) == -1
def overlapFrom (i : Nat) : List Sn → Option (Nat × Nat)
  | [] => none
  | a :: r => match r.findIdx? (clash a) with
    | some k => some (i, i + 1 + k)
    | none => overlapFrom (i + 1) r
def two (o : Option (Nat × Nat)) : Int × Int := match o with | some (i, k) => ((i : Int), (k : Int)) | none => (-1, -1)
def Sn.ok (s : Sn) : Bool := wi s.team 0 1 && wi s.n 0 7 && s.valid && !away s.x s.y
def fresh (pre : List Sn) (s : Sn) : Bool := !pre.any (fun t => t.team == s.team && t.n == s.n)
def soundFrom : List Sn → List Sn → Bool
  | _, [] => true
  | pre, s :: r => s.ok && fresh pre s && soundFrom (pre ++ [s]) r
def check (l : List Sn) : Bool := decide (l.length ≤ 16) && soundFrom [] l && (overlapFrom 0 l).isNone
def idxFrom (i : Nat) : List Sn → List Nat
  | [] => []
  | s :: r => if s.housed = true then i :: idxFrom (i + 1) r else idxFrom (i + 1) r
def insR (key : Nat → Int) (x : Nat) : List Nat → List Nat
  | [] => [x]
  | a :: r => if key x < key a then a :: insR key x r else x :: a :: r
def zero : Sn := ⟨0, 0, 0, 0⟩
def get (l : List Sn) (i : Nat) : Sn := l[i]?.getD zero
def keyAt (l : List Sn) (i : Nat) : Int := (get l i).key
def teamAt (l : List Sn) (i : Nat) : Int := (get l i).team
def near (l : List Sn) : List Nat := ((idxFrom 0 l).foldl (fun acc x => insR (keyAt l) x acc) []).reverse
def count (l : List Sn) : Int × Int :=
  match near l with
  | [] => (-1, 0)
  | a :: r =>
    match (a :: r).findIdx? (fun i => teamAt l i != teamAt l a) with
    | none => (teamAt l a, (a :: r).length)
    | some m =>
      let p := (((a :: r).take m).takeWhile (fun i => decide (keyAt l i < keyAt l ((a :: r)[m]?.getD 0)))).length
      if p = 0 then (-1, 0) else (teamAt l a, p)
def mirror (l : List Sn) : List Sn := l.map (fun s => { s with x := -s.x })
def find (l : List Sn) (team n : Int) : Option Nat := l.findIdx? (fun s => s.team == team && s.n == n)
end Sheet
