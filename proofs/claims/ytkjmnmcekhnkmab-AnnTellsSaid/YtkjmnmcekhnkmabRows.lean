/-
  No cell of these rows narrows 'for every input' (looked for: loops, veiled, ifaces, maps, wideKeys, modest, calm, conditions, laid).
  DERIVED. THE GIVEN ROWS OF THIS SEAT. 7 by the template 'for every input the law returns true; each argument reads behind the call as it read before'; 0 by the template 'total and deterministic' (their statements: YtkjmnmcekhnkmabTotals.lean).
  GIVEN WITH THE SEED: the statements are not yours to turn. If you find one false, say at which input.
  Laid BY PROGRAM, IN A SANDBOX (cutbox-rows.mjs): the forced cells as the released guide's own fill.sh prints them over the translation ae501410e070e239… (all of the seat's roots in one cut). By AI agents, Wed Nov 11 2026. No macro, syntax, notation, axiom, sorry.
-/
import Derived.Test.YtkjmnmcekhnkmabChecked
import GoSem.Claim
import GoSem.ClaimJoined
import GoSem.ClaimMapViews
import Derived.JoinedTies
import Derived.KernelRfl
namespace Go.Proofs.Ytkjmnmcekhnkmab
/- THE CELL 'sum', in the pinned program and in every row, IS THE sha256 OF THE DUMP (.gsa) THAT YtkjmnmcekhnkmabProg.lean LOADS. Nothing in Lean hashes anything: it is a label: what it is worth is what the hold of that sum in a sandbox is worth. -/
noncomputable def Try.pinned : Pinned := { name := "ytkjmnmcekhnkmab", sum := "ae501410e070e2395332fb76b68b29ab09982296a5208dcf6586b8737bc68a38", checked := Try.checked }
namespace Rows
def none {H : Type} : Left H := { results := [], args := [] }

/-- 'capstanlaw02.GaussEnds': WHATEVER THE INPUT: true; the input reads as it did. -/
def gaussEndsSpec : ChangeSpec := { name := "gaussEnds", fn := fun _ => fun
  | [d1, d2] => { results := [.lit (.bool true)], args := [d1, d2] }
  | _ => none }
def gaussEndsRow : OpenClaim := { program := "ytkjmnmcekhnkmab", sum := "ae501410e070e2395332fb76b68b29ab09982296a5208dcf6586b8737bc68a38", func := "capstan/capstanlaw02.GaussEnds", spec := "gaussEnds", unfollowed := true, recurses := true, apart := false }
def GaussEndsSaid : Prop := gaussEndsRow.holds Try.pinned (OpenSpec.ofChange gaussEndsSpec)

/-- ITS FALSE NEIGHBOUR: 'it returns false'. Refute it at one input. -/
def gaussEndsWrong : ChangeSpec := { name := "gaussEnds", fn := fun _ => fun
  | [d1, d2] => { results := [.lit (.bool false)], args := [d1, d2] }
  | _ => none }
def GaussEndsWrongFalsely : Prop := gaussEndsRow.holds Try.pinned (OpenSpec.ofChange gaussEndsWrong)

/-- 'capstanlaw24.RoomLeast': WHATEVER THE INPUT: true; the input reads as it did. -/
def roomLeastSpec : ChangeSpec := { name := "roomLeast", fn := fun _ => fun
  | [d1, d2] => { results := [.lit (.bool true)], args := [d1, d2] }
  | _ => none }
def roomLeastRow : OpenClaim := { program := "ytkjmnmcekhnkmab", sum := "ae501410e070e2395332fb76b68b29ab09982296a5208dcf6586b8737bc68a38", func := "capstan/capstanlaw24.RoomLeast", spec := "roomLeast", unfollowed := true, recurses := true, apart := false }
def RoomLeastSaid : Prop := roomLeastRow.holds Try.pinned (OpenSpec.ofChange roomLeastSpec)

/-- ITS FALSE NEIGHBOUR: 'it returns false'. Refute it at one input. -/
def roomLeastWrong : ChangeSpec := { name := "roomLeast", fn := fun _ => fun
  | [d1, d2] => { results := [.lit (.bool false)], args := [d1, d2] }
  | _ => none }
def RoomLeastWrongFalsely : Prop := roomLeastRow.holds Try.pinned (OpenSpec.ofChange roomLeastWrong)

/-- 'capstanlaw24.RoomPlays': WHATEVER THE INPUT: true; the input reads as it did. -/
def roomPlaysSpec : ChangeSpec := { name := "roomPlays", fn := fun _ => fun
  | [d1, d2, d3, d4] => { results := [.lit (.bool true)], args := [d1, d2, d3, d4] }
  | _ => none }
def roomPlaysRow : OpenClaim := { program := "ytkjmnmcekhnkmab", sum := "ae501410e070e2395332fb76b68b29ab09982296a5208dcf6586b8737bc68a38", func := "capstan/capstanlaw24.RoomPlays", spec := "roomPlays", unfollowed := true, recurses := true, apart := false }
def RoomPlaysSaid : Prop := roomPlaysRow.holds Try.pinned (OpenSpec.ofChange roomPlaysSpec)

/-- ITS FALSE NEIGHBOUR: 'it returns false'. Refute it at one input. -/
def roomPlaysWrong : ChangeSpec := { name := "roomPlays", fn := fun _ => fun
  | [d1, d2, d3, d4] => { results := [.lit (.bool false)], args := [d1, d2, d3, d4] }
  | _ => none }
def RoomPlaysWrongFalsely : Prop := roomPlaysRow.holds Try.pinned (OpenSpec.ofChange roomPlaysWrong)

/-- 'capstanlaw24.RoomOver': WHATEVER THE INPUT: true; the input reads as it did. -/
def roomOverSpec : ChangeSpec := { name := "roomOver", fn := fun _ => fun
  | [d1, d2, d3] => { results := [.lit (.bool true)], args := [d1, d2, d3] }
  | _ => none }
def roomOverRow : OpenClaim := { program := "ytkjmnmcekhnkmab", sum := "ae501410e070e2395332fb76b68b29ab09982296a5208dcf6586b8737bc68a38", func := "capstan/capstanlaw24.RoomOver", spec := "roomOver", unfollowed := true, recurses := true, apart := false }
def RoomOverSaid : Prop := roomOverRow.holds Try.pinned (OpenSpec.ofChange roomOverSpec)

/-- ITS FALSE NEIGHBOUR: 'it returns false'. Refute it at one input. -/
def roomOverWrong : ChangeSpec := { name := "roomOver", fn := fun _ => fun
  | [d1, d2, d3] => { results := [.lit (.bool false)], args := [d1, d2, d3] }
  | _ => none }
def RoomOverWrongFalsely : Prop := roomOverRow.holds Try.pinned (OpenSpec.ofChange roomOverWrong)

/-- 'capstanlaw22.AnnTells': WHATEVER THE INPUT: true; the input reads as it did. -/
def annTellsSpec : ChangeSpec := { name := "annTells", fn := fun _ => fun
  | [d1, d2, d3, d4, d5, d6, d7] => { results := [.lit (.bool true)], args := [d1, d2, d3, d4, d5, d6, d7] }
  | _ => none }
def annTellsRow : OpenClaim := { program := "ytkjmnmcekhnkmab", sum := "ae501410e070e2395332fb76b68b29ab09982296a5208dcf6586b8737bc68a38", func := "capstan/capstanlaw22.AnnTells", spec := "annTells", unfollowed := true, recurses := true, apart := false }
def AnnTellsSaid : Prop := annTellsRow.holds Try.pinned (OpenSpec.ofChange annTellsSpec)

/-- ITS FALSE NEIGHBOUR: 'it returns false'. Refute it at one input. -/
def annTellsWrong : ChangeSpec := { name := "annTells", fn := fun _ => fun
  | [d1, d2, d3, d4, d5, d6, d7] => { results := [.lit (.bool false)], args := [d1, d2, d3, d4, d5, d6, d7] }
  | _ => none }
def AnnTellsWrongFalsely : Prop := annTellsRow.holds Try.pinned (OpenSpec.ofChange annTellsWrong)

/-- 'capstanlaw22.AnnTurns': WHATEVER THE INPUT: true; the input reads as it did. -/
def annTurnsSpec : ChangeSpec := { name := "annTurns", fn := fun _ => fun
  | [d1, d2] => { results := [.lit (.bool true)], args := [d1, d2] }
  | _ => none }
def annTurnsRow : OpenClaim := { program := "ytkjmnmcekhnkmab", sum := "ae501410e070e2395332fb76b68b29ab09982296a5208dcf6586b8737bc68a38", func := "capstan/capstanlaw22.AnnTurns", spec := "annTurns", unfollowed := true, recurses := true, apart := false }
def AnnTurnsSaid : Prop := annTurnsRow.holds Try.pinned (OpenSpec.ofChange annTurnsSpec)

/-- ITS FALSE NEIGHBOUR: 'it returns false'. Refute it at one input. -/
def annTurnsWrong : ChangeSpec := { name := "annTurns", fn := fun _ => fun
  | [d1, d2] => { results := [.lit (.bool false)], args := [d1, d2] }
  | _ => none }
def AnnTurnsWrongFalsely : Prop := annTurnsRow.holds Try.pinned (OpenSpec.ofChange annTurnsWrong)

/-- 'capstanlaw22.AnnNever': WHATEVER THE INPUT: true; the input reads as it did. -/
def annNeverSpec : ChangeSpec := { name := "annNever", fn := fun _ => fun
  | [d1, d2, d3, d4] => { results := [.lit (.bool true)], args := [d1, d2, d3, d4] }
  | _ => none }
def annNeverRow : OpenClaim := { program := "ytkjmnmcekhnkmab", sum := "ae501410e070e2395332fb76b68b29ab09982296a5208dcf6586b8737bc68a38", func := "capstan/capstanlaw22.AnnNever", spec := "annNever", unfollowed := true, recurses := true, apart := false }
def AnnNeverSaid : Prop := annNeverRow.holds Try.pinned (OpenSpec.ofChange annNeverSpec)

/-- ITS FALSE NEIGHBOUR: 'it returns false'. Refute it at one input. -/
def annNeverWrong : ChangeSpec := { name := "annNever", fn := fun _ => fun
  | [d1, d2, d3, d4] => { results := [.lit (.bool false)], args := [d1, d2, d3, d4] }
  | _ => none }
def AnnNeverWrongFalsely : Prop := annNeverRow.holds Try.pinned (OpenSpec.ofChange annNeverWrong)

/- THE SECOND FORM. 'bulk': how many values and letters a reading holds, each counted each time it is reached (what is shared counts as often as it is met; a slice's spare places count too). A statement '..UptoSaid' is the law's where the arguments, and the package variables that the reading takes, are together of bulk at most 1048576: NARROWER than '..Said'. Prove '..Said' where nothing that the law and all that it calls make is longer than what came in: it says more and counts as full. Else prove '..UptoSaid'. A law counts once. -/
mutual
def uptoBulk {H : Type} : DataW H → Nat
  | .lit (.string bytes) => bytes.length + 1
  | .lit _ => 1
  | .nil => 1
  | .ptr d => uptoBulk d + 1
  | .slice elems spare => uptoBulkAll elems + uptoBulkAll spare + 1
  | .agg parts => uptoBulkAll parts + 1
  | .iface _ d => uptoBulk d + 1
  | .map entries => uptoBulkEntries entries + 1
  | .held _ => 1
def uptoBulkAll {H : Type} : List (DataW H) → Nat
  | [] => 0
  | d :: r => uptoBulk d + uptoBulkAll r
def uptoBulkEntries {H : Type} : List (Lit × DataW H) → Nat
  | [] => 0
  | x :: r => uptoBulkEntry x + uptoBulkEntries r
def uptoBulkEntry {H : Type} : Lit × DataW H → Nat
  | (.string bytes, d) => bytes.length + uptoBulk d + 1
  | (_, d) => uptoBulk d + 1
 end
def uptoSmall : (H : Type) → List (DataW H) → Bool := fun _ ds => decide (uptoBulkAll ds ≤ 1048576)
def OpenSpec.upto (s : _root_.Go.ChangeSpec) : _root_.Go.OpenSpec := { _root_.Go.OpenSpec.ofChange s with cond := some uptoSmall }

/-- 'capstanlaw02.GaussEnds', WHERE WHAT IT READS IS OF BULK AT MOST 1048576: true; the input reads as it did. -/
def gaussEndsUptoRow : OpenClaim := { program := "ytkjmnmcekhnkmab", sum := "ae501410e070e2395332fb76b68b29ab09982296a5208dcf6586b8737bc68a38", func := "capstan/capstanlaw02.GaussEnds", spec := "gaussEnds", unfollowed := true, recurses := true, apart := false, narrowed := true }
def GaussEndsUptoSaid : Prop := gaussEndsUptoRow.holds Try.pinned (OpenSpec.upto gaussEndsSpec)

/-- 'capstanlaw24.RoomLeast', WHERE WHAT IT READS IS OF BULK AT MOST 1048576: true; the input reads as it did. -/
def roomLeastUptoRow : OpenClaim := { program := "ytkjmnmcekhnkmab", sum := "ae501410e070e2395332fb76b68b29ab09982296a5208dcf6586b8737bc68a38", func := "capstan/capstanlaw24.RoomLeast", spec := "roomLeast", unfollowed := true, recurses := true, apart := false, narrowed := true }
def RoomLeastUptoSaid : Prop := roomLeastUptoRow.holds Try.pinned (OpenSpec.upto roomLeastSpec)

/-- 'capstanlaw24.RoomPlays', WHERE WHAT IT READS IS OF BULK AT MOST 1048576: true; the input reads as it did. -/
def roomPlaysUptoRow : OpenClaim := { program := "ytkjmnmcekhnkmab", sum := "ae501410e070e2395332fb76b68b29ab09982296a5208dcf6586b8737bc68a38", func := "capstan/capstanlaw24.RoomPlays", spec := "roomPlays", unfollowed := true, recurses := true, apart := false, narrowed := true }
def RoomPlaysUptoSaid : Prop := roomPlaysUptoRow.holds Try.pinned (OpenSpec.upto roomPlaysSpec)

/-- 'capstanlaw24.RoomOver', WHERE WHAT IT READS IS OF BULK AT MOST 1048576: true; the input reads as it did. -/
def roomOverUptoRow : OpenClaim := { program := "ytkjmnmcekhnkmab", sum := "ae501410e070e2395332fb76b68b29ab09982296a5208dcf6586b8737bc68a38", func := "capstan/capstanlaw24.RoomOver", spec := "roomOver", unfollowed := true, recurses := true, apart := false, narrowed := true }
def RoomOverUptoSaid : Prop := roomOverUptoRow.holds Try.pinned (OpenSpec.upto roomOverSpec)

/-- 'capstanlaw22.AnnTells', WHERE WHAT IT READS IS OF BULK AT MOST 1048576: true; the input reads as it did. -/
def annTellsUptoRow : OpenClaim := { program := "ytkjmnmcekhnkmab", sum := "ae501410e070e2395332fb76b68b29ab09982296a5208dcf6586b8737bc68a38", func := "capstan/capstanlaw22.AnnTells", spec := "annTells", unfollowed := true, recurses := true, apart := false, narrowed := true }
def AnnTellsUptoSaid : Prop := annTellsUptoRow.holds Try.pinned (OpenSpec.upto annTellsSpec)

/-- 'capstanlaw22.AnnTurns', WHERE WHAT IT READS IS OF BULK AT MOST 1048576: true; the input reads as it did. -/
def annTurnsUptoRow : OpenClaim := { program := "ytkjmnmcekhnkmab", sum := "ae501410e070e2395332fb76b68b29ab09982296a5208dcf6586b8737bc68a38", func := "capstan/capstanlaw22.AnnTurns", spec := "annTurns", unfollowed := true, recurses := true, apart := false, narrowed := true }
def AnnTurnsUptoSaid : Prop := annTurnsUptoRow.holds Try.pinned (OpenSpec.upto annTurnsSpec)

/-- 'capstanlaw22.AnnNever', WHERE WHAT IT READS IS OF BULK AT MOST 1048576: true; the input reads as it did. -/
def annNeverUptoRow : OpenClaim := { program := "ytkjmnmcekhnkmab", sum := "ae501410e070e2395332fb76b68b29ab09982296a5208dcf6586b8737bc68a38", func := "capstan/capstanlaw22.AnnNever", spec := "annNever", unfollowed := true, recurses := true, apart := false, narrowed := true }
def AnnNeverUptoSaid : Prop := annNeverUptoRow.holds Try.pinned (OpenSpec.upto annNeverSpec)

end Rows
end Go.Proofs.Ytkjmnmcekhnkmab
