/-
  No cell of these rows narrows 'for every input' (looked for: loops, veiled, ifaces, maps, wideKeys, modest, calm, conditions, laid).
  DERIVED. THE GIVEN ROWS OF THIS SEAT. 3 by the template 'for every input the law returns true; each argument reads behind the call as it read before'; 0 by the template 'total and deterministic' (their statements: YtkhgpeejmbfmjaaTotals.lean).
  GIVEN WITH THE SEED: the statements are not yours to turn. If you find one false, say at which input.
  Laid BY PROGRAM, IN A SANDBOX (cutbox-rows.mjs): the forced cells as the released guide's own fill.sh prints them over the translation 0f37af32feb0d9a5… (all of the seat's roots in one cut). By AI agents, Wed Nov 11 2026. No macro, syntax, notation, axiom, sorry.
-/
import Derived.Test.YtkhgpeejmbfmjaaChecked
import GoSem.Claim
import GoSem.ClaimJoined
import GoSem.ClaimMapViews
import Derived.JoinedTies
import Derived.KernelRfl
namespace Go.Proofs.Ytkhgpeejmbfmjaa
/- THE CELL 'sum', in the pinned program and in every row, IS THE sha256 OF THE DUMP (.gsa) THAT YtkhgpeejmbfmjaaProg.lean LOADS. Nothing in Lean hashes anything: it is a label: what it is worth is what the hold of that sum in a sandbox is worth. -/
noncomputable def Try.pinned : Pinned := { name := "ytkhgpeejmbfmjaa", sum := "0f37af32feb0d9a57c529d23c720d9a8e429c9c2c5897bf91ab92b9be11da9e6", checked := Try.checked }
namespace Rows
def none {H : Type} : Left H := { results := [], args := [] }

/-- 'capstanlaw17.MachineTraps': WHATEVER THE INPUT: true; the input reads as it did. -/
def machineTrapsSpec : ChangeSpec := { name := "machineTraps", fn := fun _ => fun
  | [d1, d2, d3, d4] => { results := [.lit (.bool true)], args := [d1, d2, d3, d4] }
  | _ => none }
def machineTrapsRow : OpenClaim := { program := "ytkhgpeejmbfmjaa", sum := "0f37af32feb0d9a57c529d23c720d9a8e429c9c2c5897bf91ab92b9be11da9e6", func := "capstan/capstanlaw17.MachineTraps", spec := "machineTraps", unfollowed := true, recurses := true, apart := false }
def MachineTrapsSaid : Prop := machineTrapsRow.holds Try.pinned (OpenSpec.ofChange machineTrapsSpec)

/-- ITS FALSE NEIGHBOUR: 'it returns false'. Refute it at one input. -/
def machineTrapsWrong : ChangeSpec := { name := "machineTraps", fn := fun _ => fun
  | [d1, d2, d3, d4] => { results := [.lit (.bool false)], args := [d1, d2, d3, d4] }
  | _ => none }
def MachineTrapsWrongFalsely : Prop := machineTrapsRow.holds Try.pinned (OpenSpec.ofChange machineTrapsWrong)

/-- 'capstanlaw17.MachineMore': WHATEVER THE INPUT: true; the input reads as it did. -/
def machineMoreSpec : ChangeSpec := { name := "machineMore", fn := fun _ => fun
  | [d1, d2, d3, d4, d5, d6] => { results := [.lit (.bool true)], args := [d1, d2, d3, d4, d5, d6] }
  | _ => none }
def machineMoreRow : OpenClaim := { program := "ytkhgpeejmbfmjaa", sum := "0f37af32feb0d9a57c529d23c720d9a8e429c9c2c5897bf91ab92b9be11da9e6", func := "capstan/capstanlaw17.MachineMore", spec := "machineMore", unfollowed := true, recurses := true, apart := false }
def MachineMoreSaid : Prop := machineMoreRow.holds Try.pinned (OpenSpec.ofChange machineMoreSpec)

/-- ITS FALSE NEIGHBOUR: 'it returns false'. Refute it at one input. -/
def machineMoreWrong : ChangeSpec := { name := "machineMore", fn := fun _ => fun
  | [d1, d2, d3, d4, d5, d6] => { results := [.lit (.bool false)], args := [d1, d2, d3, d4, d5, d6] }
  | _ => none }
def MachineMoreWrongFalsely : Prop := machineMoreRow.holds Try.pinned (OpenSpec.ofChange machineMoreWrong)

/-- 'capstanlaw17.MachineEnough': WHATEVER THE INPUT: true; the input reads as it did. -/
def machineEnoughSpec : ChangeSpec := { name := "machineEnough", fn := fun _ => fun
  | [d1, d2, d3, d4, d5] => { results := [.lit (.bool true)], args := [d1, d2, d3, d4, d5] }
  | _ => none }
def machineEnoughRow : OpenClaim := { program := "ytkhgpeejmbfmjaa", sum := "0f37af32feb0d9a57c529d23c720d9a8e429c9c2c5897bf91ab92b9be11da9e6", func := "capstan/capstanlaw17.MachineEnough", spec := "machineEnough", unfollowed := true, recurses := true, apart := false }
def MachineEnoughSaid : Prop := machineEnoughRow.holds Try.pinned (OpenSpec.ofChange machineEnoughSpec)

/-- ITS FALSE NEIGHBOUR: 'it returns false'. Refute it at one input. -/
def machineEnoughWrong : ChangeSpec := { name := "machineEnough", fn := fun _ => fun
  | [d1, d2, d3, d4, d5] => { results := [.lit (.bool false)], args := [d1, d2, d3, d4, d5] }
  | _ => none }
def MachineEnoughWrongFalsely : Prop := machineEnoughRow.holds Try.pinned (OpenSpec.ofChange machineEnoughWrong)

/- THE SECOND FORM. 'bulk': how many values and letters a reading holds, each counted each time it is reached (what is shared counts as often as it is met; a slice's spare places count too). A statement '..UptoSaid' is the law's where the arguments, and the package variables that the reading takes, are together of bulk at most 1048576: NARROWER than '..Said'. Prove '..Said' where nothing that the law and all that it calls make is longer than what came in: it says more and counts as full. Else prove '..UptoSaid'. A law counts once. -/
mutual
def uptoBulk {H : Type} : DataW H → Nat
  | .lit (.string bytes) => bytes.length + 1
  | .lit _ => 1
  | .nil => 1
  | .ptr d => uptoBulk d + 1
  | .slice elems spare => uptoBulkAll elems + uptoBulkAll spare + 1
  | .agg parts => uptoBulkAll parts + 1
  | .iface _ d => uptoBulk d + 1
  | .map entries => uptoBulkEntries entries + 1
  | .held _ => 1
def uptoBulkAll {H : Type} : List (DataW H) → Nat
  | [] => 0
  | d :: r => uptoBulk d + uptoBulkAll r
def uptoBulkEntries {H : Type} : List (Lit × DataW H) → Nat
  | [] => 0
  | x :: r => uptoBulkEntry x + uptoBulkEntries r
def uptoBulkEntry {H : Type} : Lit × DataW H → Nat
  | (.string bytes, d) => bytes.length + uptoBulk d + 1
  | (_, d) => uptoBulk d + 1
 end
def uptoSmall : (H : Type) → List (DataW H) → Bool := fun _ ds => decide (uptoBulkAll ds ≤ 1048576)
def OpenSpec.upto (s : _root_.Go.ChangeSpec) : _root_.Go.OpenSpec := { _root_.Go.OpenSpec.ofChange s with cond := some uptoSmall }

/-- 'capstanlaw17.MachineTraps', WHERE WHAT IT READS IS OF BULK AT MOST 1048576: true; the input reads as it did. -/
def machineTrapsUptoRow : OpenClaim := { program := "ytkhgpeejmbfmjaa", sum := "0f37af32feb0d9a57c529d23c720d9a8e429c9c2c5897bf91ab92b9be11da9e6", func := "capstan/capstanlaw17.MachineTraps", spec := "machineTraps", unfollowed := true, recurses := true, apart := false, narrowed := true }
def MachineTrapsUptoSaid : Prop := machineTrapsUptoRow.holds Try.pinned (OpenSpec.upto machineTrapsSpec)

/-- 'capstanlaw17.MachineMore', WHERE WHAT IT READS IS OF BULK AT MOST 1048576: true; the input reads as it did. -/
def machineMoreUptoRow : OpenClaim := { program := "ytkhgpeejmbfmjaa", sum := "0f37af32feb0d9a57c529d23c720d9a8e429c9c2c5897bf91ab92b9be11da9e6", func := "capstan/capstanlaw17.MachineMore", spec := "machineMore", unfollowed := true, recurses := true, apart := false, narrowed := true }
def MachineMoreUptoSaid : Prop := machineMoreUptoRow.holds Try.pinned (OpenSpec.upto machineMoreSpec)

/-- 'capstanlaw17.MachineEnough', WHERE WHAT IT READS IS OF BULK AT MOST 1048576: true; the input reads as it did. -/
def machineEnoughUptoRow : OpenClaim := { program := "ytkhgpeejmbfmjaa", sum := "0f37af32feb0d9a57c529d23c720d9a8e429c9c2c5897bf91ab92b9be11da9e6", func := "capstan/capstanlaw17.MachineEnough", spec := "machineEnough", unfollowed := true, recurses := true, apart := false, narrowed := true }
def MachineEnoughUptoSaid : Prop := machineEnoughUptoRow.holds Try.pinned (OpenSpec.upto machineEnoughSpec)

end Rows
end Go.Proofs.Ytkhgpeejmbfmjaa
