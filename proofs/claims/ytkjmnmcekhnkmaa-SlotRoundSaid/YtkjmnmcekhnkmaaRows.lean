/-
  No cell of these rows narrows 'for every input' (looked for: loops, veiled, ifaces, maps, wideKeys, modest, calm, conditions, laid).
  DERIVED. THE GIVEN ROWS OF THIS SEAT. 7 by the template 'for every input the law returns true; each argument reads behind the call as it read before'; 0 by the template 'total and deterministic' (their statements: YtkjmnmcekhnkmaaTotals.lean).
  GIVEN WITH THE SEED: the statements are not yours to turn. If you find one false, say at which input.
  Laid BY PROGRAM, IN A SANDBOX (cutbox-rows.mjs): the forced cells as the released guide's own fill.sh prints them over the translation c2890e5e05a74e23… (all of the seat's roots in one cut). By AI agents, Wed Nov 11 2026. No macro, syntax, notation, axiom, sorry.
-/
import Derived.Test.YtkjmnmcekhnkmaaChecked
import GoSem.Claim
import GoSem.ClaimJoined
import GoSem.ClaimMapViews
import Derived.JoinedTies
import Derived.KernelRfl
namespace Go.Proofs.Ytkjmnmcekhnkmaa
/- THE CELL 'sum', in the pinned program and in every row, IS THE sha256 OF THE DUMP (.gsa) THAT YtkjmnmcekhnkmaaProg.lean LOADS. Nothing in Lean hashes anything: it is a label: what it is worth is what the hold of that sum in a sandbox is worth. -/
noncomputable def Try.pinned : Pinned := { name := "ytkjmnmcekhnkmaa", sum := "c2890e5e05a74e2342c6384ebf8686be8cdbb2a85340a29b5d148cabb2a3cce1", checked := Try.checked }
namespace Rows
def none {H : Type} : Left H := { results := [], args := [] }

/-- 'capstanlaw23.SlotApart': WHATEVER THE INPUT: true; the input reads as it did. -/
def slotApartSpec : ChangeSpec := { name := "slotApart", fn := fun _ => fun
  | [d1, d2, d3] => { results := [.lit (.bool true)], args := [d1, d2, d3] }
  | _ => none }
def slotApartRow : OpenClaim := { program := "ytkjmnmcekhnkmaa", sum := "c2890e5e05a74e2342c6384ebf8686be8cdbb2a85340a29b5d148cabb2a3cce1", func := "capstan/capstanlaw23.SlotApart", spec := "slotApart", apart := false }
def SlotApartSaid : Prop := slotApartRow.holds Try.pinned (OpenSpec.ofChange slotApartSpec)

/-- ITS FALSE NEIGHBOUR: 'it returns false'. Refute it at one input. -/
def slotApartWrong : ChangeSpec := { name := "slotApart", fn := fun _ => fun
  | [d1, d2, d3] => { results := [.lit (.bool false)], args := [d1, d2, d3] }
  | _ => none }
def SlotApartWrongFalsely : Prop := slotApartRow.holds Try.pinned (OpenSpec.ofChange slotApartWrong)

/-- 'capstanlaw23.SlotTells': WHATEVER THE INPUT: true; the input reads as it did. -/
def slotTellsSpec : ChangeSpec := { name := "slotTells", fn := fun _ => fun
  | [d1, d2, d3, d4] => { results := [.lit (.bool true)], args := [d1, d2, d3, d4] }
  | _ => none }
def slotTellsRow : OpenClaim := { program := "ytkjmnmcekhnkmaa", sum := "c2890e5e05a74e2342c6384ebf8686be8cdbb2a85340a29b5d148cabb2a3cce1", func := "capstan/capstanlaw23.SlotTells", spec := "slotTells", apart := false }
def SlotTellsSaid : Prop := slotTellsRow.holds Try.pinned (OpenSpec.ofChange slotTellsSpec)

/-- ITS FALSE NEIGHBOUR: 'it returns false'. Refute it at one input. -/
def slotTellsWrong : ChangeSpec := { name := "slotTells", fn := fun _ => fun
  | [d1, d2, d3, d4] => { results := [.lit (.bool false)], args := [d1, d2, d3, d4] }
  | _ => none }
def SlotTellsWrongFalsely : Prop := slotTellsRow.holds Try.pinned (OpenSpec.ofChange slotTellsWrong)

/-- 'capstanlaw23.SlotRound': WHATEVER THE INPUT: true; the input reads as it did. -/
def slotRoundSpec : ChangeSpec := { name := "slotRound", fn := fun _ => fun
  | [d1, d2] => { results := [.lit (.bool true)], args := [d1, d2] }
  | _ => none }
def slotRoundRow : OpenClaim := { program := "ytkjmnmcekhnkmaa", sum := "c2890e5e05a74e2342c6384ebf8686be8cdbb2a85340a29b5d148cabb2a3cce1", func := "capstan/capstanlaw23.SlotRound", spec := "slotRound", apart := false }
def SlotRoundSaid : Prop := slotRoundRow.holds Try.pinned (OpenSpec.ofChange slotRoundSpec)

/-- ITS FALSE NEIGHBOUR: 'it returns false'. Refute it at one input. -/
def slotRoundWrong : ChangeSpec := { name := "slotRound", fn := fun _ => fun
  | [d1, d2] => { results := [.lit (.bool false)], args := [d1, d2] }
  | _ => none }
def SlotRoundWrongFalsely : Prop := slotRoundRow.holds Try.pinned (OpenSpec.ofChange slotRoundWrong)

/-- 'capstanlaw24.RoomNil': WHATEVER THE INPUT: true; the input reads as it did. -/
def roomNilSpec : ChangeSpec := { name := "roomNil", fn := fun _ => fun
  | [d1, d2] => { results := [.lit (.bool true)], args := [d1, d2] }
  | _ => none }
def roomNilRow : OpenClaim := { program := "ytkjmnmcekhnkmaa", sum := "c2890e5e05a74e2342c6384ebf8686be8cdbb2a85340a29b5d148cabb2a3cce1", func := "capstan/capstanlaw24.RoomNil", spec := "roomNil", unfollowed := true, recurses := true, apart := false }
def RoomNilSaid : Prop := roomNilRow.holds Try.pinned (OpenSpec.ofChange roomNilSpec)

/-- ITS FALSE NEIGHBOUR: 'it returns false'. Refute it at one input. -/
def roomNilWrong : ChangeSpec := { name := "roomNil", fn := fun _ => fun
  | [d1, d2] => { results := [.lit (.bool false)], args := [d1, d2] }
  | _ => none }
def RoomNilWrongFalsely : Prop := roomNilRow.holds Try.pinned (OpenSpec.ofChange roomNilWrong)

/-- 'capstanlaw02.GaussMeasures': WHATEVER THE INPUT: true; the input reads as it did. -/
def gaussMeasuresSpec : ChangeSpec := { name := "gaussMeasures", fn := fun _ => fun
  | [d1, d2] => { results := [.lit (.bool true)], args := [d1, d2] }
  | _ => none }
def gaussMeasuresRow : OpenClaim := { program := "ytkjmnmcekhnkmaa", sum := "c2890e5e05a74e2342c6384ebf8686be8cdbb2a85340a29b5d148cabb2a3cce1", func := "capstan/capstanlaw02.GaussMeasures", spec := "gaussMeasures", unfollowed := true, recurses := true, apart := false }
def GaussMeasuresSaid : Prop := gaussMeasuresRow.holds Try.pinned (OpenSpec.ofChange gaussMeasuresSpec)

/-- ITS FALSE NEIGHBOUR: 'it returns false'. Refute it at one input. -/
def gaussMeasuresWrong : ChangeSpec := { name := "gaussMeasures", fn := fun _ => fun
  | [d1, d2] => { results := [.lit (.bool false)], args := [d1, d2] }
  | _ => none }
def GaussMeasuresWrongFalsely : Prop := gaussMeasuresRow.holds Try.pinned (OpenSpec.ofChange gaussMeasuresWrong)

/-- 'capstanlaw02.GaussTells': WHATEVER THE INPUT: true; the input reads as it did. -/
def gaussTellsSpec : ChangeSpec := { name := "gaussTells", fn := fun _ => fun
  | [d1, d2, d3, d4] => { results := [.lit (.bool true)], args := [d1, d2, d3, d4] }
  | _ => none }
def gaussTellsRow : OpenClaim := { program := "ytkjmnmcekhnkmaa", sum := "c2890e5e05a74e2342c6384ebf8686be8cdbb2a85340a29b5d148cabb2a3cce1", func := "capstan/capstanlaw02.GaussTells", spec := "gaussTells", unfollowed := true, recurses := true, apart := false }
def GaussTellsSaid : Prop := gaussTellsRow.holds Try.pinned (OpenSpec.ofChange gaussTellsSpec)

/-- ITS FALSE NEIGHBOUR: 'it returns false'. Refute it at one input. -/
def gaussTellsWrong : ChangeSpec := { name := "gaussTells", fn := fun _ => fun
  | [d1, d2, d3, d4] => { results := [.lit (.bool false)], args := [d1, d2, d3, d4] }
  | _ => none }
def GaussTellsWrongFalsely : Prop := gaussTellsRow.holds Try.pinned (OpenSpec.ofChange gaussTellsWrong)

/-- 'capstanlaw02.GaussRing': WHATEVER THE INPUT: true; the input reads as it did. -/
def gaussRingSpec : ChangeSpec := { name := "gaussRing", fn := fun _ => fun
  | [d1, d2, d3] => { results := [.lit (.bool true)], args := [d1, d2, d3] }
  | _ => none }
def gaussRingRow : OpenClaim := { program := "ytkjmnmcekhnkmaa", sum := "c2890e5e05a74e2342c6384ebf8686be8cdbb2a85340a29b5d148cabb2a3cce1", func := "capstan/capstanlaw02.GaussRing", spec := "gaussRing", unfollowed := true, recurses := true, apart := false }
def GaussRingSaid : Prop := gaussRingRow.holds Try.pinned (OpenSpec.ofChange gaussRingSpec)

/-- ITS FALSE NEIGHBOUR: 'it returns false'. Refute it at one input. -/
def gaussRingWrong : ChangeSpec := { name := "gaussRing", fn := fun _ => fun
  | [d1, d2, d3] => { results := [.lit (.bool false)], args := [d1, d2, d3] }
  | _ => none }
def GaussRingWrongFalsely : Prop := gaussRingRow.holds Try.pinned (OpenSpec.ofChange gaussRingWrong)

/- THE SECOND FORM. 'bulk': how many values and letters a reading holds, each counted each time it is reached (what is shared counts as often as it is met; a slice's spare places count too). A statement '..UptoSaid' is the law's where the arguments, and the package variables that the reading takes, are together of bulk at most 1048576: NARROWER than '..Said'. Prove '..Said' where nothing that the law and all that it calls make is longer than what came in: it says more and counts as full. Else prove '..UptoSaid'. A law counts once. -/
mutual
def uptoBulk {H : Type} : DataW H → Nat
  | .lit (.string bytes) => bytes.length + 1
  | .lit _ => 1
  | .nil => 1
  | .ptr d => uptoBulk d + 1
  | .slice elems spare => uptoBulkAll elems + uptoBulkAll spare + 1
  | .agg parts => uptoBulkAll parts + 1
  | .iface _ d => uptoBulk d + 1
  | .map entries => uptoBulkEntries entries + 1
  | .held _ => 1
def uptoBulkAll {H : Type} : List (DataW H) → Nat
  | [] => 0
  | d :: r => uptoBulk d + uptoBulkAll r
def uptoBulkEntries {H : Type} : List (Lit × DataW H) → Nat
  | [] => 0
  | x :: r => uptoBulkEntry x + uptoBulkEntries r
def uptoBulkEntry {H : Type} : Lit × DataW H → Nat
  | (.string bytes, d) => bytes.length + uptoBulk d + 1
  | (_, d) => uptoBulk d + 1
 end
def uptoSmall : (H : Type) → List (DataW H) → Bool := fun _ ds => decide (uptoBulkAll ds ≤ 1048576)
def OpenSpec.upto (s : _root_.Go.ChangeSpec) : _root_.Go.OpenSpec := { _root_.Go.OpenSpec.ofChange s with cond := some uptoSmall }

/-- 'capstanlaw23.SlotApart', WHERE WHAT IT READS IS OF BULK AT MOST 1048576: true; the input reads as it did. -/
def slotApartUptoRow : OpenClaim := { program := "ytkjmnmcekhnkmaa", sum := "c2890e5e05a74e2342c6384ebf8686be8cdbb2a85340a29b5d148cabb2a3cce1", func := "capstan/capstanlaw23.SlotApart", spec := "slotApart", apart := false, narrowed := true }
def SlotApartUptoSaid : Prop := slotApartUptoRow.holds Try.pinned (OpenSpec.upto slotApartSpec)

/-- 'capstanlaw23.SlotTells', WHERE WHAT IT READS IS OF BULK AT MOST 1048576: true; the input reads as it did. -/
def slotTellsUptoRow : OpenClaim := { program := "ytkjmnmcekhnkmaa", sum := "c2890e5e05a74e2342c6384ebf8686be8cdbb2a85340a29b5d148cabb2a3cce1", func := "capstan/capstanlaw23.SlotTells", spec := "slotTells", apart := false, narrowed := true }
def SlotTellsUptoSaid : Prop := slotTellsUptoRow.holds Try.pinned (OpenSpec.upto slotTellsSpec)

/-- 'capstanlaw23.SlotRound', WHERE WHAT IT READS IS OF BULK AT MOST 1048576: true; the input reads as it did. -/
def slotRoundUptoRow : OpenClaim := { program := "ytkjmnmcekhnkmaa", sum := "c2890e5e05a74e2342c6384ebf8686be8cdbb2a85340a29b5d148cabb2a3cce1", func := "capstan/capstanlaw23.SlotRound", spec := "slotRound", apart := false, narrowed := true }
def SlotRoundUptoSaid : Prop := slotRoundUptoRow.holds Try.pinned (OpenSpec.upto slotRoundSpec)

/-- 'capstanlaw24.RoomNil', WHERE WHAT IT READS IS OF BULK AT MOST 1048576: true; the input reads as it did. -/
def roomNilUptoRow : OpenClaim := { program := "ytkjmnmcekhnkmaa", sum := "c2890e5e05a74e2342c6384ebf8686be8cdbb2a85340a29b5d148cabb2a3cce1", func := "capstan/capstanlaw24.RoomNil", spec := "roomNil", unfollowed := true, recurses := true, apart := false, narrowed := true }
def RoomNilUptoSaid : Prop := roomNilUptoRow.holds Try.pinned (OpenSpec.upto roomNilSpec)

/-- 'capstanlaw02.GaussMeasures', WHERE WHAT IT READS IS OF BULK AT MOST 1048576: true; the input reads as it did. -/
def gaussMeasuresUptoRow : OpenClaim := { program := "ytkjmnmcekhnkmaa", sum := "c2890e5e05a74e2342c6384ebf8686be8cdbb2a85340a29b5d148cabb2a3cce1", func := "capstan/capstanlaw02.GaussMeasures", spec := "gaussMeasures", unfollowed := true, recurses := true, apart := false, narrowed := true }
def GaussMeasuresUptoSaid : Prop := gaussMeasuresUptoRow.holds Try.pinned (OpenSpec.upto gaussMeasuresSpec)

/-- 'capstanlaw02.GaussTells', WHERE WHAT IT READS IS OF BULK AT MOST 1048576: true; the input reads as it did. -/
def gaussTellsUptoRow : OpenClaim := { program := "ytkjmnmcekhnkmaa", sum := "c2890e5e05a74e2342c6384ebf8686be8cdbb2a85340a29b5d148cabb2a3cce1", func := "capstan/capstanlaw02.GaussTells", spec := "gaussTells", unfollowed := true, recurses := true, apart := false, narrowed := true }
def GaussTellsUptoSaid : Prop := gaussTellsUptoRow.holds Try.pinned (OpenSpec.upto gaussTellsSpec)

/-- 'capstanlaw02.GaussRing', WHERE WHAT IT READS IS OF BULK AT MOST 1048576: true; the input reads as it did. -/
def gaussRingUptoRow : OpenClaim := { program := "ytkjmnmcekhnkmaa", sum := "c2890e5e05a74e2342c6384ebf8686be8cdbb2a85340a29b5d148cabb2a3cce1", func := "capstan/capstanlaw02.GaussRing", spec := "gaussRing", unfollowed := true, recurses := true, apart := false, narrowed := true }
def GaussRingUptoSaid : Prop := gaussRingUptoRow.holds Try.pinned (OpenSpec.upto gaussRingSpec)

end Rows
end Go.Proofs.Ytkjmnmcekhnkmaa
