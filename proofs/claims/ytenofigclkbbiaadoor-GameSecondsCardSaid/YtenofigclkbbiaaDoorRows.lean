/-
  NARROWER THAN 'FOR EVERY INPUT', by the rows' own cells (each row's printed sentence says how): GameCards: laid · GameAlone: laid · GameSides: laid · GameHammers: laid · GameSeconds: laid · GameClocks: laid · GameNone: laid.
  DERIVED. THE GIVEN ROWS OF THIS SEAT. 7 by the template 'for every input the law returns true; each argument reads behind the call as it read before'; 0 by the template 'total and deterministic' (their statements: YtenofigclkbbiaaDoorTotals.lean).
  GIVEN WITH THE SEED: the statements are not yours to turn. If you find one false, say at which input.
  Laid BY PROGRAM, IN A SANDBOX (cutbox-rows.mjs): the forced cells as the released guide's own fill.sh prints them over the translation f591689ab8377e0e… (all of the seat's roots in one cut). By AI agents, Wed Nov 11 2026. No macro, syntax, notation, axiom, sorry.
-/
import Derived.Test.YtenofigclkbbiaaDoorChecked
import GoSem.Claim
import GoSem.ClaimJoined
import GoSem.ClaimMapViews
import Derived.JoinedTies
import Derived.KernelRfl
namespace Go.Proofs.YtenofigclkbbiaaDoor
/- THE CELL 'sum', in the pinned program and in every row, IS THE sha256 OF THE DUMP (.gsa) THAT YtenofigclkbbiaaDoorProg.lean LOADS. Nothing in Lean hashes anything: it is a label: what it is worth is what the hold of that sum in a sandbox is worth. -/
noncomputable def Tryd.pinned : Pinned := { name := "ytenofigclkbbiaadoor", sum := "f591689ab8377e0e49ca20450d36552ffeb9165fd91f31cb322ffb6c2706f56f", checked := Tryd.checked }
namespace Rows
def none {H : Type} : Left H := { results := [], args := [] }

/- WHAT THE LISTED PACKAGE-LEVEL VARIABLES READ AS WHEN THE CALL BEGINS. Each datum BY PROGRAM (the guide's laid-datum.mjs) off the statement by which the dump's own 'gosem.cut.vars' lays the variable. In a bare row this is a premise. The card (YtenofigclkbbiaaDoorCards.lean) ties it to the program's text. -/
def laid_math_bits_deBruijn32tab {H : Type} : DataW H := .agg [.lit (.int .u8 0), .lit (.int .u8 1), .lit (.int .u8 28), .lit (.int .u8 2), .lit (.int .u8 29), .lit (.int .u8 14), .lit (.int .u8 24), .lit (.int .u8 3), .lit (.int .u8 30), .lit (.int .u8 22), .lit (.int .u8 20), .lit (.int .u8 15), .lit (.int .u8 25), .lit (.int .u8 17), .lit (.int .u8 4), .lit (.int .u8 8), .lit (.int .u8 31), .lit (.int .u8 27), .lit (.int .u8 13), .lit (.int .u8 23), .lit (.int .u8 21), .lit (.int .u8 19), .lit (.int .u8 16), .lit (.int .u8 7), .lit (.int .u8 26), .lit (.int .u8 12), .lit (.int .u8 18), .lit (.int .u8 6), .lit (.int .u8 11), .lit (.int .u8 5), .lit (.int .u8 10), .lit (.int .u8 9)]
def laid_math_bits_deBruijn64tab {H : Type} : DataW H := .agg [.lit (.int .u8 0), .lit (.int .u8 1), .lit (.int .u8 56), .lit (.int .u8 2), .lit (.int .u8 57), .lit (.int .u8 49), .lit (.int .u8 28), .lit (.int .u8 3), .lit (.int .u8 61), .lit (.int .u8 58), .lit (.int .u8 42), .lit (.int .u8 50), .lit (.int .u8 38), .lit (.int .u8 29), .lit (.int .u8 17), .lit (.int .u8 4), .lit (.int .u8 62), .lit (.int .u8 47), .lit (.int .u8 59), .lit (.int .u8 36), .lit (.int .u8 45), .lit (.int .u8 43), .lit (.int .u8 51), .lit (.int .u8 22), .lit (.int .u8 53), .lit (.int .u8 39), .lit (.int .u8 33), .lit (.int .u8 30), .lit (.int .u8 24), .lit (.int .u8 18), .lit (.int .u8 12), .lit (.int .u8 5), .lit (.int .u8 63), .lit (.int .u8 55), .lit (.int .u8 48), .lit (.int .u8 27), .lit (.int .u8 60), .lit (.int .u8 41), .lit (.int .u8 37), .lit (.int .u8 16), .lit (.int .u8 46), .lit (.int .u8 35), .lit (.int .u8 44), .lit (.int .u8 21), .lit (.int .u8 52), .lit (.int .u8 32), .lit (.int .u8 23), .lit (.int .u8 11), .lit (.int .u8 54), .lit (.int .u8 26), .lit (.int .u8 40), .lit (.int .u8 15), .lit (.int .u8 34), .lit (.int .u8 20), .lit (.int .u8 31), .lit (.int .u8 10), .lit (.int .u8 25), .lit (.int .u8 14), .lit (.int .u8 19), .lit (.int .u8 9), .lit (.int .u8 13), .lit (.int .u8 8), .lit (.int .u8 7), .lit (.int .u8 6)]
def laid_internal_strconv_uint64pow10 {H : Type} : DataW H := .agg [.lit (.int .u64 1), .lit (.int .u64 10), .lit (.int .u64 100), .lit (.int .u64 1000), .lit (.int .u64 10000), .lit (.int .u64 100000), .lit (.int .u64 1000000), .lit (.int .u64 10000000), .lit (.int .u64 100000000), .lit (.int .u64 1000000000), .lit (.int .u64 10000000000), .lit (.int .u64 100000000000), .lit (.int .u64 1000000000000), .lit (.int .u64 10000000000000), .lit (.int .u64 100000000000000), .lit (.int .u64 1000000000000000), .lit (.int .u64 10000000000000000), .lit (.int .u64 100000000000000000), .lit (.int .u64 1000000000000000000), .lit (.int .u64 10000000000000000000)]

/-- 'besomlaw08.GameCards': WHATEVER THE INPUT: true; the input reads as it did. -/
def gameCardsSpec : ChangeSpec := { name := "gameCards", fn := fun _ => fun
  | [d1, d2, d3, d4] => { results := [.lit (.bool true)], args := [d1, d2, d3, d4] }
  | _ => none }
def gameCardsRow : OpenClaim := { program := "ytenofigclkbbiaadoor", sum := "f591689ab8377e0e49ca20450d36552ffeb9165fd91f31cb322ffb6c2706f56f", func := "besom/besomlaw08.GameCards", spec := "gameCards", inPlace := ["internal/abi.NoEscape", "internal/bytealg.MakeNoZero"], unfollowed := true, recurses := true, named := ["internal/strconv.uint64pow10", "math/bits.deBruijn32tab", "math/bits.deBruijn64tab"], apart := false, laid := [("math/bits.deBruijn32tab", laid_math_bits_deBruijn32tab), ("math/bits.deBruijn64tab", laid_math_bits_deBruijn64tab), ("internal/strconv.uint64pow10", laid_internal_strconv_uint64pow10)] }
def GameCardsSaid : Prop := gameCardsRow.holds Tryd.pinned (OpenSpec.ofChange gameCardsSpec)

/-- ITS FALSE NEIGHBOUR: 'it returns false'. Refute it at one input. -/
def gameCardsWrong : ChangeSpec := { name := "gameCards", fn := fun _ => fun
  | [d1, d2, d3, d4] => { results := [.lit (.bool false)], args := [d1, d2, d3, d4] }
  | _ => none }
def GameCardsWrongFalsely : Prop := gameCardsRow.holds Tryd.pinned (OpenSpec.ofChange gameCardsWrong)

/-- 'besomlaw08.GameAlone': WHATEVER THE INPUT: true; the input reads as it did. -/
def gameAloneSpec : ChangeSpec := { name := "gameAlone", fn := fun _ => fun
  | [d1, d2, d3, d4] => { results := [.lit (.bool true)], args := [d1, d2, d3, d4] }
  | _ => none }
def gameAloneRow : OpenClaim := { program := "ytenofigclkbbiaadoor", sum := "f591689ab8377e0e49ca20450d36552ffeb9165fd91f31cb322ffb6c2706f56f", func := "besom/besomlaw08.GameAlone", spec := "gameAlone", inPlace := ["internal/abi.NoEscape", "internal/bytealg.MakeNoZero"], unfollowed := true, recurses := true, named := ["internal/strconv.uint64pow10", "math/bits.deBruijn32tab", "math/bits.deBruijn64tab"], apart := false, laid := [("math/bits.deBruijn32tab", laid_math_bits_deBruijn32tab), ("math/bits.deBruijn64tab", laid_math_bits_deBruijn64tab), ("internal/strconv.uint64pow10", laid_internal_strconv_uint64pow10)] }
def GameAloneSaid : Prop := gameAloneRow.holds Tryd.pinned (OpenSpec.ofChange gameAloneSpec)

/-- ITS FALSE NEIGHBOUR: 'it returns false'. Refute it at one input. -/
def gameAloneWrong : ChangeSpec := { name := "gameAlone", fn := fun _ => fun
  | [d1, d2, d3, d4] => { results := [.lit (.bool false)], args := [d1, d2, d3, d4] }
  | _ => none }
def GameAloneWrongFalsely : Prop := gameAloneRow.holds Tryd.pinned (OpenSpec.ofChange gameAloneWrong)

/-- 'besomlaw08.GameSides': WHATEVER THE INPUT: true; the input reads as it did. -/
def gameSidesSpec : ChangeSpec := { name := "gameSides", fn := fun _ => fun
  | [d1, d2, d3, d4] => { results := [.lit (.bool true)], args := [d1, d2, d3, d4] }
  | _ => none }
def gameSidesRow : OpenClaim := { program := "ytenofigclkbbiaadoor", sum := "f591689ab8377e0e49ca20450d36552ffeb9165fd91f31cb322ffb6c2706f56f", func := "besom/besomlaw08.GameSides", spec := "gameSides", inPlace := ["internal/abi.NoEscape", "internal/bytealg.MakeNoZero"], unfollowed := true, recurses := true, named := ["internal/strconv.uint64pow10", "math/bits.deBruijn32tab", "math/bits.deBruijn64tab"], apart := false, laid := [("math/bits.deBruijn32tab", laid_math_bits_deBruijn32tab), ("math/bits.deBruijn64tab", laid_math_bits_deBruijn64tab), ("internal/strconv.uint64pow10", laid_internal_strconv_uint64pow10)] }
def GameSidesSaid : Prop := gameSidesRow.holds Tryd.pinned (OpenSpec.ofChange gameSidesSpec)

/-- ITS FALSE NEIGHBOUR: 'it returns false'. Refute it at one input. -/
def gameSidesWrong : ChangeSpec := { name := "gameSides", fn := fun _ => fun
  | [d1, d2, d3, d4] => { results := [.lit (.bool false)], args := [d1, d2, d3, d4] }
  | _ => none }
def GameSidesWrongFalsely : Prop := gameSidesRow.holds Tryd.pinned (OpenSpec.ofChange gameSidesWrong)

/-- 'besomlaw08.GameHammers': WHATEVER THE INPUT: true; the input reads as it did. -/
def gameHammersSpec : ChangeSpec := { name := "gameHammers", fn := fun _ => fun
  | [d1, d2, d3] => { results := [.lit (.bool true)], args := [d1, d2, d3] }
  | _ => none }
def gameHammersRow : OpenClaim := { program := "ytenofigclkbbiaadoor", sum := "f591689ab8377e0e49ca20450d36552ffeb9165fd91f31cb322ffb6c2706f56f", func := "besom/besomlaw08.GameHammers", spec := "gameHammers", inPlace := ["internal/abi.NoEscape", "internal/bytealg.MakeNoZero"], unfollowed := true, recurses := true, named := ["internal/strconv.uint64pow10", "math/bits.deBruijn32tab", "math/bits.deBruijn64tab"], apart := false, laid := [("math/bits.deBruijn32tab", laid_math_bits_deBruijn32tab), ("math/bits.deBruijn64tab", laid_math_bits_deBruijn64tab), ("internal/strconv.uint64pow10", laid_internal_strconv_uint64pow10)] }
def GameHammersSaid : Prop := gameHammersRow.holds Tryd.pinned (OpenSpec.ofChange gameHammersSpec)

/-- ITS FALSE NEIGHBOUR: 'it returns false'. Refute it at one input. -/
def gameHammersWrong : ChangeSpec := { name := "gameHammers", fn := fun _ => fun
  | [d1, d2, d3] => { results := [.lit (.bool false)], args := [d1, d2, d3] }
  | _ => none }
def GameHammersWrongFalsely : Prop := gameHammersRow.holds Tryd.pinned (OpenSpec.ofChange gameHammersWrong)

/-- 'besomlaw08.GameSeconds': WHATEVER THE INPUT: true; the input reads as it did. -/
def gameSecondsSpec : ChangeSpec := { name := "gameSeconds", fn := fun _ => fun
  | [d1, d2] => { results := [.lit (.bool true)], args := [d1, d2] }
  | _ => none }
def gameSecondsRow : OpenClaim := { program := "ytenofigclkbbiaadoor", sum := "f591689ab8377e0e49ca20450d36552ffeb9165fd91f31cb322ffb6c2706f56f", func := "besom/besomlaw08.GameSeconds", spec := "gameSeconds", inPlace := ["internal/abi.NoEscape", "internal/bytealg.MakeNoZero"], unfollowed := true, recurses := true, named := ["internal/strconv.uint64pow10", "math/bits.deBruijn32tab", "math/bits.deBruijn64tab"], apart := false, laid := [("math/bits.deBruijn32tab", laid_math_bits_deBruijn32tab), ("math/bits.deBruijn64tab", laid_math_bits_deBruijn64tab), ("internal/strconv.uint64pow10", laid_internal_strconv_uint64pow10)] }
def GameSecondsSaid : Prop := gameSecondsRow.holds Tryd.pinned (OpenSpec.ofChange gameSecondsSpec)

/-- ITS FALSE NEIGHBOUR: 'it returns false'. Refute it at one input. -/
def gameSecondsWrong : ChangeSpec := { name := "gameSeconds", fn := fun _ => fun
  | [d1, d2] => { results := [.lit (.bool false)], args := [d1, d2] }
  | _ => none }
def GameSecondsWrongFalsely : Prop := gameSecondsRow.holds Tryd.pinned (OpenSpec.ofChange gameSecondsWrong)

/-- 'besomlaw08.GameClocks': WHATEVER THE INPUT: true; the input reads as it did. -/
def gameClocksSpec : ChangeSpec := { name := "gameClocks", fn := fun _ => fun
  | [d1, d2] => { results := [.lit (.bool true)], args := [d1, d2] }
  | _ => none }
def gameClocksRow : OpenClaim := { program := "ytenofigclkbbiaadoor", sum := "f591689ab8377e0e49ca20450d36552ffeb9165fd91f31cb322ffb6c2706f56f", func := "besom/besomlaw08.GameClocks", spec := "gameClocks", inPlace := ["internal/abi.NoEscape", "internal/bytealg.MakeNoZero"], unfollowed := true, recurses := true, named := ["internal/strconv.uint64pow10", "math/bits.deBruijn32tab", "math/bits.deBruijn64tab"], apart := false, laid := [("math/bits.deBruijn32tab", laid_math_bits_deBruijn32tab), ("math/bits.deBruijn64tab", laid_math_bits_deBruijn64tab), ("internal/strconv.uint64pow10", laid_internal_strconv_uint64pow10)] }
def GameClocksSaid : Prop := gameClocksRow.holds Tryd.pinned (OpenSpec.ofChange gameClocksSpec)

/-- ITS FALSE NEIGHBOUR: 'it returns false'. Refute it at one input. -/
def gameClocksWrong : ChangeSpec := { name := "gameClocks", fn := fun _ => fun
  | [d1, d2] => { results := [.lit (.bool false)], args := [d1, d2] }
  | _ => none }
def GameClocksWrongFalsely : Prop := gameClocksRow.holds Tryd.pinned (OpenSpec.ofChange gameClocksWrong)

/-- 'besomlaw08.GameNone': WHATEVER THE INPUT: true; the input reads as it did. -/
def gameNoneSpec : ChangeSpec := { name := "gameNone", fn := fun _ => fun
  | [d1, d2] => { results := [.lit (.bool true)], args := [d1, d2] }
  | _ => none }
def gameNoneRow : OpenClaim := { program := "ytenofigclkbbiaadoor", sum := "f591689ab8377e0e49ca20450d36552ffeb9165fd91f31cb322ffb6c2706f56f", func := "besom/besomlaw08.GameNone", spec := "gameNone", inPlace := ["internal/abi.NoEscape", "internal/bytealg.MakeNoZero"], unfollowed := true, recurses := true, named := ["internal/strconv.uint64pow10", "math/bits.deBruijn32tab", "math/bits.deBruijn64tab"], apart := false, laid := [("math/bits.deBruijn32tab", laid_math_bits_deBruijn32tab), ("math/bits.deBruijn64tab", laid_math_bits_deBruijn64tab), ("internal/strconv.uint64pow10", laid_internal_strconv_uint64pow10)] }
def GameNoneSaid : Prop := gameNoneRow.holds Tryd.pinned (OpenSpec.ofChange gameNoneSpec)

/-- ITS FALSE NEIGHBOUR: 'it returns false'. Refute it at one input. -/
def gameNoneWrong : ChangeSpec := { name := "gameNone", fn := fun _ => fun
  | [d1, d2] => { results := [.lit (.bool false)], args := [d1, d2] }
  | _ => none }
def GameNoneWrongFalsely : Prop := gameNoneRow.holds Tryd.pinned (OpenSpec.ofChange gameNoneWrong)

/- THE SECOND FORM. 'bulk': how many values and letters a reading holds, each counted each time it is reached (what is shared counts as often as it is met; a slice's spare places count too). A statement '..UptoSaid' is the law's where the arguments, and the package variables that the reading takes, are together of bulk at most 1048576: NARROWER than '..Said'. Prove '..Said' where nothing that the law and all that it calls make is longer than what came in: it says more and counts as full. Else prove '..UptoSaid'. A law counts once. -/
mutual
def uptoBulk {H : Type} : DataW H → Nat
  | .lit (.string bytes) => bytes.length + 1
  | .lit _ => 1
  | .nil => 1
  | .ptr d => uptoBulk d + 1
  | .slice elems spare => uptoBulkAll elems + uptoBulkAll spare + 1
  | .agg parts => uptoBulkAll parts + 1
  | .iface _ d => uptoBulk d + 1
  | .map entries => uptoBulkEntries entries + 1
  | .held _ => 1
def uptoBulkAll {H : Type} : List (DataW H) → Nat
  | [] => 0
  | d :: r => uptoBulk d + uptoBulkAll r
def uptoBulkEntries {H : Type} : List (Lit × DataW H) → Nat
  | [] => 0
  | x :: r => uptoBulkEntry x + uptoBulkEntries r
def uptoBulkEntry {H : Type} : Lit × DataW H → Nat
  | (.string bytes, d) => bytes.length + uptoBulk d + 1
  | (_, d) => uptoBulk d + 1
 end
def uptoSmall : (H : Type) → List (DataW H) → Bool := fun _ ds => decide (uptoBulkAll ds ≤ 1048576)
def OpenSpec.upto (s : _root_.Go.ChangeSpec) : _root_.Go.OpenSpec := { _root_.Go.OpenSpec.ofChange s with cond := some uptoSmall }

/-- 'besomlaw08.GameCards', WHERE WHAT IT READS IS OF BULK AT MOST 1048576: true; the input reads as it did. -/
def gameCardsUptoRow : OpenClaim := { program := "ytenofigclkbbiaadoor", sum := "f591689ab8377e0e49ca20450d36552ffeb9165fd91f31cb322ffb6c2706f56f", func := "besom/besomlaw08.GameCards", spec := "gameCards", inPlace := ["internal/abi.NoEscape", "internal/bytealg.MakeNoZero"], unfollowed := true, recurses := true, named := ["internal/strconv.uint64pow10", "math/bits.deBruijn32tab", "math/bits.deBruijn64tab"], apart := false, laid := [("math/bits.deBruijn32tab", laid_math_bits_deBruijn32tab), ("math/bits.deBruijn64tab", laid_math_bits_deBruijn64tab), ("internal/strconv.uint64pow10", laid_internal_strconv_uint64pow10)], narrowed := true }
def GameCardsUptoSaid : Prop := gameCardsUptoRow.holds Tryd.pinned (OpenSpec.upto gameCardsSpec)

/-- 'besomlaw08.GameAlone', WHERE WHAT IT READS IS OF BULK AT MOST 1048576: true; the input reads as it did. -/
def gameAloneUptoRow : OpenClaim := { program := "ytenofigclkbbiaadoor", sum := "f591689ab8377e0e49ca20450d36552ffeb9165fd91f31cb322ffb6c2706f56f", func := "besom/besomlaw08.GameAlone", spec := "gameAlone", inPlace := ["internal/abi.NoEscape", "internal/bytealg.MakeNoZero"], unfollowed := true, recurses := true, named := ["internal/strconv.uint64pow10", "math/bits.deBruijn32tab", "math/bits.deBruijn64tab"], apart := false, laid := [("math/bits.deBruijn32tab", laid_math_bits_deBruijn32tab), ("math/bits.deBruijn64tab", laid_math_bits_deBruijn64tab), ("internal/strconv.uint64pow10", laid_internal_strconv_uint64pow10)], narrowed := true }
def GameAloneUptoSaid : Prop := gameAloneUptoRow.holds Tryd.pinned (OpenSpec.upto gameAloneSpec)

/-- 'besomlaw08.GameSides', WHERE WHAT IT READS IS OF BULK AT MOST 1048576: true; the input reads as it did. -/
def gameSidesUptoRow : OpenClaim := { program := "ytenofigclkbbiaadoor", sum := "f591689ab8377e0e49ca20450d36552ffeb9165fd91f31cb322ffb6c2706f56f", func := "besom/besomlaw08.GameSides", spec := "gameSides", inPlace := ["internal/abi.NoEscape", "internal/bytealg.MakeNoZero"], unfollowed := true, recurses := true, named := ["internal/strconv.uint64pow10", "math/bits.deBruijn32tab", "math/bits.deBruijn64tab"], apart := false, laid := [("math/bits.deBruijn32tab", laid_math_bits_deBruijn32tab), ("math/bits.deBruijn64tab", laid_math_bits_deBruijn64tab), ("internal/strconv.uint64pow10", laid_internal_strconv_uint64pow10)], narrowed := true }
def GameSidesUptoSaid : Prop := gameSidesUptoRow.holds Tryd.pinned (OpenSpec.upto gameSidesSpec)

/-- 'besomlaw08.GameHammers', WHERE WHAT IT READS IS OF BULK AT MOST 1048576: true; the input reads as it did. -/
def gameHammersUptoRow : OpenClaim := { program := "ytenofigclkbbiaadoor", sum := "f591689ab8377e0e49ca20450d36552ffeb9165fd91f31cb322ffb6c2706f56f", func := "besom/besomlaw08.GameHammers", spec := "gameHammers", inPlace := ["internal/abi.NoEscape", "internal/bytealg.MakeNoZero"], unfollowed := true, recurses := true, named := ["internal/strconv.uint64pow10", "math/bits.deBruijn32tab", "math/bits.deBruijn64tab"], apart := false, laid := [("math/bits.deBruijn32tab", laid_math_bits_deBruijn32tab), ("math/bits.deBruijn64tab", laid_math_bits_deBruijn64tab), ("internal/strconv.uint64pow10", laid_internal_strconv_uint64pow10)], narrowed := true }
def GameHammersUptoSaid : Prop := gameHammersUptoRow.holds Tryd.pinned (OpenSpec.upto gameHammersSpec)

/-- 'besomlaw08.GameSeconds', WHERE WHAT IT READS IS OF BULK AT MOST 1048576: true; the input reads as it did. -/
def gameSecondsUptoRow : OpenClaim := { program := "ytenofigclkbbiaadoor", sum := "f591689ab8377e0e49ca20450d36552ffeb9165fd91f31cb322ffb6c2706f56f", func := "besom/besomlaw08.GameSeconds", spec := "gameSeconds", inPlace := ["internal/abi.NoEscape", "internal/bytealg.MakeNoZero"], unfollowed := true, recurses := true, named := ["internal/strconv.uint64pow10", "math/bits.deBruijn32tab", "math/bits.deBruijn64tab"], apart := false, laid := [("math/bits.deBruijn32tab", laid_math_bits_deBruijn32tab), ("math/bits.deBruijn64tab", laid_math_bits_deBruijn64tab), ("internal/strconv.uint64pow10", laid_internal_strconv_uint64pow10)], narrowed := true }
def GameSecondsUptoSaid : Prop := gameSecondsUptoRow.holds Tryd.pinned (OpenSpec.upto gameSecondsSpec)

/-- 'besomlaw08.GameClocks', WHERE WHAT IT READS IS OF BULK AT MOST 1048576: true; the input reads as it did. -/
def gameClocksUptoRow : OpenClaim := { program := "ytenofigclkbbiaadoor", sum := "f591689ab8377e0e49ca20450d36552ffeb9165fd91f31cb322ffb6c2706f56f", func := "besom/besomlaw08.GameClocks", spec := "gameClocks", inPlace := ["internal/abi.NoEscape", "internal/bytealg.MakeNoZero"], unfollowed := true, recurses := true, named := ["internal/strconv.uint64pow10", "math/bits.deBruijn32tab", "math/bits.deBruijn64tab"], apart := false, laid := [("math/bits.deBruijn32tab", laid_math_bits_deBruijn32tab), ("math/bits.deBruijn64tab", laid_math_bits_deBruijn64tab), ("internal/strconv.uint64pow10", laid_internal_strconv_uint64pow10)], narrowed := true }
def GameClocksUptoSaid : Prop := gameClocksUptoRow.holds Tryd.pinned (OpenSpec.upto gameClocksSpec)

/-- 'besomlaw08.GameNone', WHERE WHAT IT READS IS OF BULK AT MOST 1048576: true; the input reads as it did. -/
def gameNoneUptoRow : OpenClaim := { program := "ytenofigclkbbiaadoor", sum := "f591689ab8377e0e49ca20450d36552ffeb9165fd91f31cb322ffb6c2706f56f", func := "besom/besomlaw08.GameNone", spec := "gameNone", inPlace := ["internal/abi.NoEscape", "internal/bytealg.MakeNoZero"], unfollowed := true, recurses := true, named := ["internal/strconv.uint64pow10", "math/bits.deBruijn32tab", "math/bits.deBruijn64tab"], apart := false, laid := [("math/bits.deBruijn32tab", laid_math_bits_deBruijn32tab), ("math/bits.deBruijn64tab", laid_math_bits_deBruijn64tab), ("internal/strconv.uint64pow10", laid_internal_strconv_uint64pow10)], narrowed := true }
def GameNoneUptoSaid : Prop := gameNoneUptoRow.holds Tryd.pinned (OpenSpec.upto gameNoneSpec)

end Rows
end Go.Proofs.YtenofigclkbbiaaDoor
