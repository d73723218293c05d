/-
  No cell of these rows narrows 'for every input' (looked for: loops, veiled, ifaces, maps, wideKeys, modest, calm, conditions, laid).
  DERIVED. THE GIVEN ROWS OF THIS SEAT. 9 by the template 'for every input the law returns true; each argument reads behind the call as it read before'; 0 by the template 'total and deterministic' (their statements: YtkdgipcfodmceaaGreatTotals.lean).
  GIVEN WITH THE SEED: the statements are not yours to turn. If you find one false, say at which input.
  Laid BY PROGRAM, IN A SANDBOX (cutbox-rows.mjs): the forced cells as the released guide's own fill.sh prints them over the translation 07efb249197dcf26… (all of the seat's roots in one cut). By AI agents, Wed Nov 11 2026. No macro, syntax, notation, axiom, sorry.
-/
import Derived.Test.YtkdgipcfodmceaaGreatChecked
import GoSem.Claim
import GoSem.ClaimJoined
import GoSem.ClaimMapViews
import Derived.JoinedTies
import Derived.KernelRfl
namespace Go.Proofs.YtkdgipcfodmceaaGreat
/- THE CELL 'sum', in the pinned program and in every row, IS THE sha256 OF THE DUMP (.gsa) THAT YtkdgipcfodmceaaGreatProg.lean LOADS. Nothing in Lean hashes anything: it is a label: what it is worth is what the hold of that sum in a sandbox is worth. -/
noncomputable def Tryz.pinned : Pinned := { name := "ytkdgipcfodmceaagreat", sum := "07efb249197dcf26bedd9e811958c81049c58428e41fdb92a5b9e41976b25ac8", checked := Tryz.checked }
namespace Rows
def none {H : Type} : Left H := { results := [], args := [] }

/-- 'laws.FnExactNewHouse': WHATEVER THE INPUT: true; the input reads as it did. -/
def fnExactNewHouseSpec : ChangeSpec := { name := "fnExactNewHouse", fn := fun _ => fun
  | [d1, d2] => { results := [.lit (.bool true)], args := [d1, d2] }
  | _ => none }
def fnExactNewHouseRow : OpenClaim := { program := "ytkdgipcfodmceaagreat", sum := "07efb249197dcf26bedd9e811958c81049c58428e41fdb92a5b9e41976b25ac8", func := "loop.example/g03003/laws.FnExactNewHouse", spec := "fnExactNewHouse", unfollowed := true, recurses := true, apart := false }
def FnExactNewHouseSaid : Prop := fnExactNewHouseRow.holds Tryz.pinned (OpenSpec.ofChange fnExactNewHouseSpec)

/-- ITS FALSE NEIGHBOUR: 'it returns false'. Refute it at one input. -/
def fnExactNewHouseWrong : ChangeSpec := { name := "fnExactNewHouse", fn := fun _ => fun
  | [d1, d2] => { results := [.lit (.bool false)], args := [d1, d2] }
  | _ => none }
def FnExactNewHouseWrongFalsely : Prop := fnExactNewHouseRow.holds Tryz.pinned (OpenSpec.ofChange fnExactNewHouseWrong)

/-- 'laws.FnExactStepClue': WHATEVER THE INPUT: true; the input reads as it did. -/
def fnExactStepClueSpec : ChangeSpec := { name := "fnExactStepClue", fn := fun _ => fun
  | [d1, d2, d3] => { results := [.lit (.bool true)], args := [d1, d2, d3] }
  | _ => none }
def fnExactStepClueRow : OpenClaim := { program := "ytkdgipcfodmceaagreat", sum := "07efb249197dcf26bedd9e811958c81049c58428e41fdb92a5b9e41976b25ac8", func := "loop.example/g03003/laws.FnExactStepClue", spec := "fnExactStepClue", unfollowed := true, recurses := true, apart := false }
def FnExactStepClueSaid : Prop := fnExactStepClueRow.holds Tryz.pinned (OpenSpec.ofChange fnExactStepClueSpec)

/-- ITS FALSE NEIGHBOUR: 'it returns false'. Refute it at one input. -/
def fnExactStepClueWrong : ChangeSpec := { name := "fnExactStepClue", fn := fun _ => fun
  | [d1, d2, d3] => { results := [.lit (.bool false)], args := [d1, d2, d3] }
  | _ => none }
def FnExactStepClueWrongFalsely : Prop := fnExactStepClueRow.holds Tryz.pinned (OpenSpec.ofChange fnExactStepClueWrong)

/-- 'laws.FnExactStepWrite': WHATEVER THE INPUT: true; the input reads as it did. -/
def fnExactStepWriteSpec : ChangeSpec := { name := "fnExactStepWrite", fn := fun _ => fun
  | [d1, d2, d3] => { results := [.lit (.bool true)], args := [d1, d2, d3] }
  | _ => none }
def fnExactStepWriteRow : OpenClaim := { program := "ytkdgipcfodmceaagreat", sum := "07efb249197dcf26bedd9e811958c81049c58428e41fdb92a5b9e41976b25ac8", func := "loop.example/g03003/laws.FnExactStepWrite", spec := "fnExactStepWrite", unfollowed := true, recurses := true, apart := false }
def FnExactStepWriteSaid : Prop := fnExactStepWriteRow.holds Tryz.pinned (OpenSpec.ofChange fnExactStepWriteSpec)

/-- ITS FALSE NEIGHBOUR: 'it returns false'. Refute it at one input. -/
def fnExactStepWriteWrong : ChangeSpec := { name := "fnExactStepWrite", fn := fun _ => fun
  | [d1, d2, d3] => { results := [.lit (.bool false)], args := [d1, d2, d3] }
  | _ => none }
def FnExactStepWriteWrongFalsely : Prop := fnExactStepWriteRow.holds Tryz.pinned (OpenSpec.ofChange fnExactStepWriteWrong)

/-- 'laws.FnExactStepEnter': WHATEVER THE INPUT: true; the input reads as it did. -/
def fnExactStepEnterSpec : ChangeSpec := { name := "fnExactStepEnter", fn := fun _ => fun
  | [d1, d2, d3, d4] => { results := [.lit (.bool true)], args := [d1, d2, d3, d4] }
  | _ => none }
def fnExactStepEnterRow : OpenClaim := { program := "ytkdgipcfodmceaagreat", sum := "07efb249197dcf26bedd9e811958c81049c58428e41fdb92a5b9e41976b25ac8", func := "loop.example/g03003/laws.FnExactStepEnter", spec := "fnExactStepEnter", unfollowed := true, recurses := true, apart := false }
def FnExactStepEnterSaid : Prop := fnExactStepEnterRow.holds Tryz.pinned (OpenSpec.ofChange fnExactStepEnterSpec)

/-- ITS FALSE NEIGHBOUR: 'it returns false'. Refute it at one input. -/
def fnExactStepEnterWrong : ChangeSpec := { name := "fnExactStepEnter", fn := fun _ => fun
  | [d1, d2, d3, d4] => { results := [.lit (.bool false)], args := [d1, d2, d3, d4] }
  | _ => none }
def FnExactStepEnterWrongFalsely : Prop := fnExactStepEnterRow.holds Tryz.pinned (OpenSpec.ofChange fnExactStepEnterWrong)

/-- 'laws.FnExactStepFill': WHATEVER THE INPUT: true; the input reads as it did. -/
def fnExactStepFillSpec : ChangeSpec := { name := "fnExactStepFill", fn := fun _ => fun
  | [d] => { results := [.lit (.bool true)], args := [d] }
  | _ => none }
def fnExactStepFillRow : OpenClaim := { program := "ytkdgipcfodmceaagreat", sum := "07efb249197dcf26bedd9e811958c81049c58428e41fdb92a5b9e41976b25ac8", func := "loop.example/g03003/laws.FnExactStepFill", spec := "fnExactStepFill", unfollowed := true, recurses := true, apart := false }
def FnExactStepFillSaid : Prop := fnExactStepFillRow.holds Tryz.pinned (OpenSpec.ofChange fnExactStepFillSpec)

/-- ITS FALSE NEIGHBOUR: 'it returns false'. Refute it at one input. -/
def fnExactStepFillWrong : ChangeSpec := { name := "fnExactStepFill", fn := fun _ => fun
  | [d] => { results := [.lit (.bool false)], args := [d] }
  | _ => none }
def FnExactStepFillWrongFalsely : Prop := fnExactStepFillRow.holds Tryz.pinned (OpenSpec.ofChange fnExactStepFillWrong)

/-- 'laws.FnExactAreFitting': WHATEVER THE INPUT: true; the input reads as it did. -/
def fnExactAreFittingSpec : ChangeSpec := { name := "fnExactAreFitting", fn := fun _ => fun
  | [d] => { results := [.lit (.bool true)], args := [d] }
  | _ => none }
def fnExactAreFittingRow : OpenClaim := { program := "ytkdgipcfodmceaagreat", sum := "07efb249197dcf26bedd9e811958c81049c58428e41fdb92a5b9e41976b25ac8", func := "loop.example/g03003/laws.FnExactAreFitting", spec := "fnExactAreFitting", unfollowed := true, recurses := true, apart := false }
def FnExactAreFittingSaid : Prop := fnExactAreFittingRow.holds Tryz.pinned (OpenSpec.ofChange fnExactAreFittingSpec)

/-- ITS FALSE NEIGHBOUR: 'it returns false'. Refute it at one input. -/
def fnExactAreFittingWrong : ChangeSpec := { name := "fnExactAreFitting", fn := fun _ => fun
  | [d] => { results := [.lit (.bool false)], args := [d] }
  | _ => none }
def FnExactAreFittingWrongFalsely : Prop := fnExactAreFittingRow.holds Tryz.pinned (OpenSpec.ofChange fnExactAreFittingWrong)

/-- 'laws.FnExactFaultOf': WHATEVER THE INPUT: true; the input reads as it did. -/
def fnExactFaultOfSpec : ChangeSpec := { name := "fnExactFaultOf", fn := fun _ => fun
  | [d] => { results := [.lit (.bool true)], args := [d] }
  | _ => none }
def fnExactFaultOfRow : OpenClaim := { program := "ytkdgipcfodmceaagreat", sum := "07efb249197dcf26bedd9e811958c81049c58428e41fdb92a5b9e41976b25ac8", func := "loop.example/g03003/laws.FnExactFaultOf", spec := "fnExactFaultOf", inPlace := ["slices.overlaps[loop.example/g03003/impl.Used]"], unfollowed := true, recurses := true, apart := false }
def FnExactFaultOfSaid : Prop := fnExactFaultOfRow.holds Tryz.pinned (OpenSpec.ofChange fnExactFaultOfSpec)

/-- ITS FALSE NEIGHBOUR: 'it returns false'. Refute it at one input. -/
def fnExactFaultOfWrong : ChangeSpec := { name := "fnExactFaultOf", fn := fun _ => fun
  | [d] => { results := [.lit (.bool false)], args := [d] }
  | _ => none }
def FnExactFaultOfWrongFalsely : Prop := fnExactFaultOfRow.holds Tryz.pinned (OpenSpec.ofChange fnExactFaultOfWrong)

/-- 'laws.FnExactStepCorrect': WHATEVER THE INPUT: true; the input reads as it did. -/
def fnExactStepCorrectSpec : ChangeSpec := { name := "fnExactStepCorrect", fn := fun _ => fun
  | [d1, d2, d3, d4] => { results := [.lit (.bool true)], args := [d1, d2, d3, d4] }
  | _ => none }
def fnExactStepCorrectRow : OpenClaim := { program := "ytkdgipcfodmceaagreat", sum := "07efb249197dcf26bedd9e811958c81049c58428e41fdb92a5b9e41976b25ac8", func := "loop.example/g03003/laws.FnExactStepCorrect", spec := "fnExactStepCorrect", unfollowed := true, recurses := true, apart := false }
def FnExactStepCorrectSaid : Prop := fnExactStepCorrectRow.holds Tryz.pinned (OpenSpec.ofChange fnExactStepCorrectSpec)

/-- ITS FALSE NEIGHBOUR: 'it returns false'. Refute it at one input. -/
def fnExactStepCorrectWrong : ChangeSpec := { name := "fnExactStepCorrect", fn := fun _ => fun
  | [d1, d2, d3, d4] => { results := [.lit (.bool false)], args := [d1, d2, d3, d4] }
  | _ => none }
def FnExactStepCorrectWrongFalsely : Prop := fnExactStepCorrectRow.holds Tryz.pinned (OpenSpec.ofChange fnExactStepCorrectWrong)

/-- 'laws.FnExactStepPublish': WHATEVER THE INPUT: true; the input reads as it did. -/
def fnExactStepPublishSpec : ChangeSpec := { name := "fnExactStepPublish", fn := fun _ => fun
  | [d1, d2, d3, d4] => { results := [.lit (.bool true)], args := [d1, d2, d3, d4] }
  | _ => none }
def fnExactStepPublishRow : OpenClaim := { program := "ytkdgipcfodmceaagreat", sum := "07efb249197dcf26bedd9e811958c81049c58428e41fdb92a5b9e41976b25ac8", func := "loop.example/g03003/laws.FnExactStepPublish", spec := "fnExactStepPublish", inPlace := ["slices.overlaps[loop.example/g03003/impl.Used]"], unfollowed := true, recurses := true, apart := false }
def FnExactStepPublishSaid : Prop := fnExactStepPublishRow.holds Tryz.pinned (OpenSpec.ofChange fnExactStepPublishSpec)

/-- ITS FALSE NEIGHBOUR: 'it returns false'. Refute it at one input. -/
def fnExactStepPublishWrong : ChangeSpec := { name := "fnExactStepPublish", fn := fun _ => fun
  | [d1, d2, d3, d4] => { results := [.lit (.bool false)], args := [d1, d2, d3, d4] }
  | _ => none }
def FnExactStepPublishWrongFalsely : Prop := fnExactStepPublishRow.holds Tryz.pinned (OpenSpec.ofChange fnExactStepPublishWrong)

/- THE SECOND FORM. 'bulk': how many values and letters a reading holds, each counted each time it is reached (what is shared counts as often as it is met; a slice's spare places count too). A statement '..UptoSaid' is the law's where the arguments, and the package variables that the reading takes, are together of bulk at most 1048576: NARROWER than '..Said'. Prove '..Said' where nothing that the law and all that it calls make is longer than what came in: it says more and counts as full. Else prove '..UptoSaid'. A law counts once. -/
mutual
def uptoBulk {H : Type} : DataW H → Nat
  | .lit (.string bytes) => bytes.length + 1
  | .lit _ => 1
  | .nil => 1
  | .ptr d => uptoBulk d + 1
  | .slice elems spare => uptoBulkAll elems + uptoBulkAll spare + 1
  | .agg parts => uptoBulkAll parts + 1
  | .iface _ d => uptoBulk d + 1
  | .map entries => uptoBulkEntries entries + 1
  | .held _ => 1
def uptoBulkAll {H : Type} : List (DataW H) → Nat
  | [] => 0
  | d :: r => uptoBulk d + uptoBulkAll r
def uptoBulkEntries {H : Type} : List (Lit × DataW H) → Nat
  | [] => 0
  | x :: r => uptoBulkEntry x + uptoBulkEntries r
def uptoBulkEntry {H : Type} : Lit × DataW H → Nat
  | (.string bytes, d) => bytes.length + uptoBulk d + 1
  | (_, d) => uptoBulk d + 1
 end
def uptoSmall : (H : Type) → List (DataW H) → Bool := fun _ ds => decide (uptoBulkAll ds ≤ 1048576)
def OpenSpec.upto (s : _root_.Go.ChangeSpec) : _root_.Go.OpenSpec := { _root_.Go.OpenSpec.ofChange s with cond := some uptoSmall }

/-- 'laws.FnExactNewHouse', WHERE WHAT IT READS IS OF BULK AT MOST 1048576: true; the input reads as it did. -/
def fnExactNewHouseUptoRow : OpenClaim := { program := "ytkdgipcfodmceaagreat", sum := "07efb249197dcf26bedd9e811958c81049c58428e41fdb92a5b9e41976b25ac8", func := "loop.example/g03003/laws.FnExactNewHouse", spec := "fnExactNewHouse", unfollowed := true, recurses := true, apart := false, narrowed := true }
def FnExactNewHouseUptoSaid : Prop := fnExactNewHouseUptoRow.holds Tryz.pinned (OpenSpec.upto fnExactNewHouseSpec)

/-- 'laws.FnExactStepClue', WHERE WHAT IT READS IS OF BULK AT MOST 1048576: true; the input reads as it did. -/
def fnExactStepClueUptoRow : OpenClaim := { program := "ytkdgipcfodmceaagreat", sum := "07efb249197dcf26bedd9e811958c81049c58428e41fdb92a5b9e41976b25ac8", func := "loop.example/g03003/laws.FnExactStepClue", spec := "fnExactStepClue", unfollowed := true, recurses := true, apart := false, narrowed := true }
def FnExactStepClueUptoSaid : Prop := fnExactStepClueUptoRow.holds Tryz.pinned (OpenSpec.upto fnExactStepClueSpec)

/-- 'laws.FnExactStepWrite', WHERE WHAT IT READS IS OF BULK AT MOST 1048576: true; the input reads as it did. -/
def fnExactStepWriteUptoRow : OpenClaim := { program := "ytkdgipcfodmceaagreat", sum := "07efb249197dcf26bedd9e811958c81049c58428e41fdb92a5b9e41976b25ac8", func := "loop.example/g03003/laws.FnExactStepWrite", spec := "fnExactStepWrite", unfollowed := true, recurses := true, apart := false, narrowed := true }
def FnExactStepWriteUptoSaid : Prop := fnExactStepWriteUptoRow.holds Tryz.pinned (OpenSpec.upto fnExactStepWriteSpec)

/-- 'laws.FnExactStepEnter', WHERE WHAT IT READS IS OF BULK AT MOST 1048576: true; the input reads as it did. -/
def fnExactStepEnterUptoRow : OpenClaim := { program := "ytkdgipcfodmceaagreat", sum := "07efb249197dcf26bedd9e811958c81049c58428e41fdb92a5b9e41976b25ac8", func := "loop.example/g03003/laws.FnExactStepEnter", spec := "fnExactStepEnter", unfollowed := true, recurses := true, apart := false, narrowed := true }
def FnExactStepEnterUptoSaid : Prop := fnExactStepEnterUptoRow.holds Tryz.pinned (OpenSpec.upto fnExactStepEnterSpec)

/-- 'laws.FnExactStepFill', WHERE WHAT IT READS IS OF BULK AT MOST 1048576: true; the input reads as it did. -/
def fnExactStepFillUptoRow : OpenClaim := { program := "ytkdgipcfodmceaagreat", sum := "07efb249197dcf26bedd9e811958c81049c58428e41fdb92a5b9e41976b25ac8", func := "loop.example/g03003/laws.FnExactStepFill", spec := "fnExactStepFill", unfollowed := true, recurses := true, apart := false, narrowed := true }
def FnExactStepFillUptoSaid : Prop := fnExactStepFillUptoRow.holds Tryz.pinned (OpenSpec.upto fnExactStepFillSpec)

/-- 'laws.FnExactAreFitting', WHERE WHAT IT READS IS OF BULK AT MOST 1048576: true; the input reads as it did. -/
def fnExactAreFittingUptoRow : OpenClaim := { program := "ytkdgipcfodmceaagreat", sum := "07efb249197dcf26bedd9e811958c81049c58428e41fdb92a5b9e41976b25ac8", func := "loop.example/g03003/laws.FnExactAreFitting", spec := "fnExactAreFitting", unfollowed := true, recurses := true, apart := false, narrowed := true }
def FnExactAreFittingUptoSaid : Prop := fnExactAreFittingUptoRow.holds Tryz.pinned (OpenSpec.upto fnExactAreFittingSpec)

/-- 'laws.FnExactFaultOf', WHERE WHAT IT READS IS OF BULK AT MOST 1048576: true; the input reads as it did. -/
def fnExactFaultOfUptoRow : OpenClaim := { program := "ytkdgipcfodmceaagreat", sum := "07efb249197dcf26bedd9e811958c81049c58428e41fdb92a5b9e41976b25ac8", func := "loop.example/g03003/laws.FnExactFaultOf", spec := "fnExactFaultOf", inPlace := ["slices.overlaps[loop.example/g03003/impl.Used]"], unfollowed := true, recurses := true, apart := false, narrowed := true }
def FnExactFaultOfUptoSaid : Prop := fnExactFaultOfUptoRow.holds Tryz.pinned (OpenSpec.upto fnExactFaultOfSpec)

/-- 'laws.FnExactStepCorrect', WHERE WHAT IT READS IS OF BULK AT MOST 1048576: true; the input reads as it did. -/
def fnExactStepCorrectUptoRow : OpenClaim := { program := "ytkdgipcfodmceaagreat", sum := "07efb249197dcf26bedd9e811958c81049c58428e41fdb92a5b9e41976b25ac8", func := "loop.example/g03003/laws.FnExactStepCorrect", spec := "fnExactStepCorrect", unfollowed := true, recurses := true, apart := false, narrowed := true }
def FnExactStepCorrectUptoSaid : Prop := fnExactStepCorrectUptoRow.holds Tryz.pinned (OpenSpec.upto fnExactStepCorrectSpec)

/-- 'laws.FnExactStepPublish', WHERE WHAT IT READS IS OF BULK AT MOST 1048576: true; the input reads as it did. -/
def fnExactStepPublishUptoRow : OpenClaim := { program := "ytkdgipcfodmceaagreat", sum := "07efb249197dcf26bedd9e811958c81049c58428e41fdb92a5b9e41976b25ac8", func := "loop.example/g03003/laws.FnExactStepPublish", spec := "fnExactStepPublish", inPlace := ["slices.overlaps[loop.example/g03003/impl.Used]"], unfollowed := true, recurses := true, apart := false, narrowed := true }
def FnExactStepPublishUptoSaid : Prop := fnExactStepPublishUptoRow.holds Tryz.pinned (OpenSpec.upto fnExactStepPublishSpec)

end Rows
end Go.Proofs.YtkdgipcfodmceaaGreat
