/-
  No cell of these rows narrows 'for every input' (looked for: loops, veiled, ifaces, maps, wideKeys, modest, calm, conditions, laid).
  DERIVED. THE GIVEN ROWS OF THIS SEAT. 12 by the template 'for every input the law returns true; each argument reads behind the call as it read before'; 0 by the template 'total and deterministic' (their statements: YtghpnhiliihlaaaTotals.lean).
  GIVEN WITH THE SEED: the statements are not yours to turn. If you find one false, say at which input.
  Laid BY PROGRAM, IN A SANDBOX (cutbox-rows.mjs): the forced cells as the released guide's own fill.sh prints them over the translation 485eec338c07f73a… (all of the seat's roots in one cut). By AI agents, Wed Nov 11 2026. No macro, syntax, notation, axiom, sorry.
-/
import Derived.Test.YtghpnhiliihlaaaChecked
import GoSem.Claim
import GoSem.ClaimJoined
import GoSem.ClaimMapViews
import Derived.JoinedTies
import Derived.KernelRfl
namespace Go.Proofs.Ytghpnhiliihlaaa
/- THE CELL 'sum', in the pinned program and in every row, IS THE sha256 OF THE DUMP (.gsa) THAT YtghpnhiliihlaaaProg.lean LOADS. Nothing in Lean hashes anything: it is a label: what it is worth is what the hold of that sum in a sandbox is worth. -/
noncomputable def Try.pinned : Pinned := { name := "ytghpnhiliihlaaa", sum := "485eec338c07f73a2b5f01f1f138da4abcdb4c2ca4829f3bd778aebffa17b809", checked := Try.checked }
namespace Rows
def none {H : Type} : Left H := { results := [], args := [] }

/-- 'carrellaw01.LeCrc': WHATEVER THE INPUT: true; the input reads as it did. -/
def leCrcSpec : ChangeSpec := { name := "leCrc", fn := fun _ => fun
  | [d] => { results := [.lit (.bool true)], args := [d] }
  | _ => none }
def leCrcRow : OpenClaim := { program := "ytghpnhiliihlaaa", sum := "485eec338c07f73a2b5f01f1f138da4abcdb4c2ca4829f3bd778aebffa17b809", func := "carrel/carrellaw01.LeCrc", spec := "leCrc", unfollowed := true, recurses := true, apart := false }
def LeCrcSaid : Prop := leCrcRow.holds Try.pinned (OpenSpec.ofChange leCrcSpec)

/-- ITS FALSE NEIGHBOUR: 'it returns false'. Refute it at one input. -/
def leCrcWrong : ChangeSpec := { name := "leCrc", fn := fun _ => fun
  | [d] => { results := [.lit (.bool false)], args := [d] }
  | _ => none }
def LeCrcWrongFalsely : Prop := leCrcRow.holds Try.pinned (OpenSpec.ofChange leCrcWrong)

/-- 'carrellaw01.LeMix': WHATEVER THE INPUT: true; the input reads as it did. -/
def leMixSpec : ChangeSpec := { name := "leMix", fn := fun _ => fun
  | [d1, d2, d3, d4] => { results := [.lit (.bool true)], args := [d1, d2, d3, d4] }
  | _ => none }
def leMixRow : OpenClaim := { program := "ytghpnhiliihlaaa", sum := "485eec338c07f73a2b5f01f1f138da4abcdb4c2ca4829f3bd778aebffa17b809", func := "carrel/carrellaw01.LeMix", spec := "leMix", unfollowed := true, recurses := true, apart := false }
def LeMixSaid : Prop := leMixRow.holds Try.pinned (OpenSpec.ofChange leMixSpec)

/-- ITS FALSE NEIGHBOUR: 'it returns false'. Refute it at one input. -/
def leMixWrong : ChangeSpec := { name := "leMix", fn := fun _ => fun
  | [d1, d2, d3, d4] => { results := [.lit (.bool false)], args := [d1, d2, d3, d4] }
  | _ => none }
def LeMixWrongFalsely : Prop := leMixRow.holds Try.pinned (OpenSpec.ofChange leMixWrong)

/-- 'carrellaw01.LeBursts': WHATEVER THE INPUT: true; the input reads as it did. -/
def leBurstsSpec : ChangeSpec := { name := "leBursts", fn := fun _ => fun
  | [d1, d2, d3] => { results := [.lit (.bool true)], args := [d1, d2, d3] }
  | _ => none }
def leBurstsRow : OpenClaim := { program := "ytghpnhiliihlaaa", sum := "485eec338c07f73a2b5f01f1f138da4abcdb4c2ca4829f3bd778aebffa17b809", func := "carrel/carrellaw01.LeBursts", spec := "leBursts", unfollowed := true, recurses := true, apart := false }
def LeBurstsSaid : Prop := leBurstsRow.holds Try.pinned (OpenSpec.ofChange leBurstsSpec)

/-- ITS FALSE NEIGHBOUR: 'it returns false'. Refute it at one input. -/
def leBurstsWrong : ChangeSpec := { name := "leBursts", fn := fun _ => fun
  | [d1, d2, d3] => { results := [.lit (.bool false)], args := [d1, d2, d3] }
  | _ => none }
def LeBurstsWrongFalsely : Prop := leBurstsRow.holds Try.pinned (OpenSpec.ofChange leBurstsWrong)

/-- 'carrellaw01.LeNums': WHATEVER THE INPUT: true; the input reads as it did. -/
def leNumsSpec : ChangeSpec := { name := "leNums", fn := fun _ => fun
  | [d1, d2, d3, d4] => { results := [.lit (.bool true)], args := [d1, d2, d3, d4] }
  | _ => none }
def leNumsRow : OpenClaim := { program := "ytghpnhiliihlaaa", sum := "485eec338c07f73a2b5f01f1f138da4abcdb4c2ca4829f3bd778aebffa17b809", func := "carrel/carrellaw01.LeNums", spec := "leNums", unfollowed := true, recurses := true, apart := false }
def LeNumsSaid : Prop := leNumsRow.holds Try.pinned (OpenSpec.ofChange leNumsSpec)

/-- ITS FALSE NEIGHBOUR: 'it returns false'. Refute it at one input. -/
def leNumsWrong : ChangeSpec := { name := "leNums", fn := fun _ => fun
  | [d1, d2, d3, d4] => { results := [.lit (.bool false)], args := [d1, d2, d3, d4] }
  | _ => none }
def LeNumsWrongFalsely : Prop := leNumsRow.holds Try.pinned (OpenSpec.ofChange leNumsWrong)

/-- 'carrellaw01.LeCells': WHATEVER THE INPUT: true; the input reads as it did. -/
def leCellsSpec : ChangeSpec := { name := "leCells", fn := fun _ => fun
  | [d1, d2, d3] => { results := [.lit (.bool true)], args := [d1, d2, d3] }
  | _ => none }
def leCellsRow : OpenClaim := { program := "ytghpnhiliihlaaa", sum := "485eec338c07f73a2b5f01f1f138da4abcdb4c2ca4829f3bd778aebffa17b809", func := "carrel/carrellaw01.LeCells", spec := "leCells", unfollowed := true, recurses := true, apart := false }
def LeCellsSaid : Prop := leCellsRow.holds Try.pinned (OpenSpec.ofChange leCellsSpec)

/-- ITS FALSE NEIGHBOUR: 'it returns false'. Refute it at one input. -/
def leCellsWrong : ChangeSpec := { name := "leCells", fn := fun _ => fun
  | [d1, d2, d3] => { results := [.lit (.bool false)], args := [d1, d2, d3] }
  | _ => none }
def LeCellsWrongFalsely : Prop := leCellsRow.holds Try.pinned (OpenSpec.ofChange leCellsWrong)

/-- 'carrellaw01.LeBack': WHATEVER THE INPUT: true; the input reads as it did. -/
def leBackSpec : ChangeSpec := { name := "leBack", fn := fun _ => fun
  | [d1, d2, d3] => { results := [.lit (.bool true)], args := [d1, d2, d3] }
  | _ => none }
def leBackRow : OpenClaim := { program := "ytghpnhiliihlaaa", sum := "485eec338c07f73a2b5f01f1f138da4abcdb4c2ca4829f3bd778aebffa17b809", func := "carrel/carrellaw01.LeBack", spec := "leBack", unfollowed := true, recurses := true, apart := false }
def LeBackSaid : Prop := leBackRow.holds Try.pinned (OpenSpec.ofChange leBackSpec)

/-- ITS FALSE NEIGHBOUR: 'it returns false'. Refute it at one input. -/
def leBackWrong : ChangeSpec := { name := "leBack", fn := fun _ => fun
  | [d1, d2, d3] => { results := [.lit (.bool false)], args := [d1, d2, d3] }
  | _ => none }
def LeBackWrongFalsely : Prop := leBackRow.holds Try.pinned (OpenSpec.ofChange leBackWrong)

/-- 'carrellaw03.RootWrites': WHATEVER THE INPUT: true; the input reads as it did. -/
def rootWritesSpec : ChangeSpec := { name := "rootWrites", fn := fun _ => fun
  | [d] => { results := [.lit (.bool true)], args := [d] }
  | _ => none }
def rootWritesRow : OpenClaim := { program := "ytghpnhiliihlaaa", sum := "485eec338c07f73a2b5f01f1f138da4abcdb4c2ca4829f3bd778aebffa17b809", func := "carrel/carrellaw03.RootWrites", spec := "rootWrites", unfollowed := true, recurses := true, apart := false }
def RootWritesSaid : Prop := rootWritesRow.holds Try.pinned (OpenSpec.ofChange rootWritesSpec)

/-- ITS FALSE NEIGHBOUR: 'it returns false'. Refute it at one input. -/
def rootWritesWrong : ChangeSpec := { name := "rootWrites", fn := fun _ => fun
  | [d] => { results := [.lit (.bool false)], args := [d] }
  | _ => none }
def RootWritesWrongFalsely : Prop := rootWritesRow.holds Try.pinned (OpenSpec.ofChange rootWritesWrong)

/-- 'carrellaw03.RootReads': WHATEVER THE INPUT: true; the input reads as it did. -/
def rootReadsSpec : ChangeSpec := { name := "rootReads", fn := fun _ => fun
  | [d] => { results := [.lit (.bool true)], args := [d] }
  | _ => none }
def rootReadsRow : OpenClaim := { program := "ytghpnhiliihlaaa", sum := "485eec338c07f73a2b5f01f1f138da4abcdb4c2ca4829f3bd778aebffa17b809", func := "carrel/carrellaw03.RootReads", spec := "rootReads", unfollowed := true, recurses := true, apart := false }
def RootReadsSaid : Prop := rootReadsRow.holds Try.pinned (OpenSpec.ofChange rootReadsSpec)

/-- ITS FALSE NEIGHBOUR: 'it returns false'. Refute it at one input. -/
def rootReadsWrong : ChangeSpec := { name := "rootReads", fn := fun _ => fun
  | [d] => { results := [.lit (.bool false)], args := [d] }
  | _ => none }
def RootReadsWrongFalsely : Prop := rootReadsRow.holds Try.pinned (OpenSpec.ofChange rootReadsWrong)

/-- 'carrellaw03.RootChooses': WHATEVER THE INPUT: true; the input reads as it did. -/
def rootChoosesSpec : ChangeSpec := { name := "rootChooses", fn := fun _ => fun
  | [d1, d2] => { results := [.lit (.bool true)], args := [d1, d2] }
  | _ => none }
def rootChoosesRow : OpenClaim := { program := "ytghpnhiliihlaaa", sum := "485eec338c07f73a2b5f01f1f138da4abcdb4c2ca4829f3bd778aebffa17b809", func := "carrel/carrellaw03.RootChooses", spec := "rootChooses", unfollowed := true, recurses := true, apart := false }
def RootChoosesSaid : Prop := rootChoosesRow.holds Try.pinned (OpenSpec.ofChange rootChoosesSpec)

/-- ITS FALSE NEIGHBOUR: 'it returns false'. Refute it at one input. -/
def rootChoosesWrong : ChangeSpec := { name := "rootChooses", fn := fun _ => fun
  | [d1, d2] => { results := [.lit (.bool false)], args := [d1, d2] }
  | _ => none }
def RootChoosesWrongFalsely : Prop := rootChoosesRow.holds Try.pinned (OpenSpec.ofChange rootChoosesWrong)

/-- 'carrellaw03.RootBack': WHATEVER THE INPUT: true; the input reads as it did. -/
def rootBackSpec : ChangeSpec := { name := "rootBack", fn := fun _ => fun
  | [d1, d2] => { results := [.lit (.bool true)], args := [d1, d2] }
  | _ => none }
def rootBackRow : OpenClaim := { program := "ytghpnhiliihlaaa", sum := "485eec338c07f73a2b5f01f1f138da4abcdb4c2ca4829f3bd778aebffa17b809", func := "carrel/carrellaw03.RootBack", spec := "rootBack", unfollowed := true, recurses := true, apart := false }
def RootBackSaid : Prop := rootBackRow.holds Try.pinned (OpenSpec.ofChange rootBackSpec)

/-- ITS FALSE NEIGHBOUR: 'it returns false'. Refute it at one input. -/
def rootBackWrong : ChangeSpec := { name := "rootBack", fn := fun _ => fun
  | [d1, d2] => { results := [.lit (.bool false)], args := [d1, d2] }
  | _ => none }
def RootBackWrongFalsely : Prop := rootBackRow.holds Try.pinned (OpenSpec.ofChange rootBackWrong)

/-- 'carrellaw03.RootBursts': WHATEVER THE INPUT: true; the input reads as it did. -/
def rootBurstsSpec : ChangeSpec := { name := "rootBursts", fn := fun _ => fun
  | [d1, d2, d3] => { results := [.lit (.bool true)], args := [d1, d2, d3] }
  | _ => none }
def rootBurstsRow : OpenClaim := { program := "ytghpnhiliihlaaa", sum := "485eec338c07f73a2b5f01f1f138da4abcdb4c2ca4829f3bd778aebffa17b809", func := "carrel/carrellaw03.RootBursts", spec := "rootBursts", unfollowed := true, recurses := true, apart := false }
def RootBurstsSaid : Prop := rootBurstsRow.holds Try.pinned (OpenSpec.ofChange rootBurstsSpec)

/-- ITS FALSE NEIGHBOUR: 'it returns false'. Refute it at one input. -/
def rootBurstsWrong : ChangeSpec := { name := "rootBursts", fn := fun _ => fun
  | [d1, d2, d3] => { results := [.lit (.bool false)], args := [d1, d2, d3] }
  | _ => none }
def RootBurstsWrongFalsely : Prop := rootBurstsRow.holds Try.pinned (OpenSpec.ofChange rootBurstsWrong)

/-- 'carrellaw03.RootTorn': WHATEVER THE INPUT: true; the input reads as it did. -/
def rootTornSpec : ChangeSpec := { name := "rootTorn", fn := fun _ => fun
  | [d1, d2, d3, d4] => { results := [.lit (.bool true)], args := [d1, d2, d3, d4] }
  | _ => none }
def rootTornRow : OpenClaim := { program := "ytghpnhiliihlaaa", sum := "485eec338c07f73a2b5f01f1f138da4abcdb4c2ca4829f3bd778aebffa17b809", func := "carrel/carrellaw03.RootTorn", spec := "rootTorn", unfollowed := true, recurses := true, apart := false }
def RootTornSaid : Prop := rootTornRow.holds Try.pinned (OpenSpec.ofChange rootTornSpec)

/-- ITS FALSE NEIGHBOUR: 'it returns false'. Refute it at one input. -/
def rootTornWrong : ChangeSpec := { name := "rootTorn", fn := fun _ => fun
  | [d1, d2, d3, d4] => { results := [.lit (.bool false)], args := [d1, d2, d3, d4] }
  | _ => none }
def RootTornWrongFalsely : Prop := rootTornRow.holds Try.pinned (OpenSpec.ofChange rootTornWrong)

/- THE SECOND FORM. 'bulk': how many values and letters a reading holds, each counted each time it is reached (what is shared counts as often as it is met; a slice's spare places count too). A statement '..UptoSaid' is the law's where the arguments, and the package variables that the reading takes, are together of bulk at most 1048576: NARROWER than '..Said'. Prove '..Said' where nothing that the law and all that it calls make is longer than what came in: it says more and counts as full. Else prove '..UptoSaid'. A law counts once. -/
mutual
def uptoBulk {H : Type} : DataW H → Nat
  | .lit (.string bytes) => bytes.length + 1
  | .lit _ => 1
  | .nil => 1
  | .ptr d => uptoBulk d + 1
  | .slice elems spare => uptoBulkAll elems + uptoBulkAll spare + 1
  | .agg parts => uptoBulkAll parts + 1
  | .iface _ d => uptoBulk d + 1
  | .map entries => uptoBulkEntries entries + 1
  | .held _ => 1
def uptoBulkAll {H : Type} : List (DataW H) → Nat
  | [] => 0
  | d :: r => uptoBulk d + uptoBulkAll r
def uptoBulkEntries {H : Type} : List (Lit × DataW H) → Nat
  | [] => 0
  | x :: r => uptoBulkEntry x + uptoBulkEntries r
def uptoBulkEntry {H : Type} : Lit × DataW H → Nat
  | (.string bytes, d) => bytes.length + uptoBulk d + 1
  | (_, d) => uptoBulk d + 1
 end
def uptoSmall : (H : Type) → List (DataW H) → Bool := fun _ ds => decide (uptoBulkAll ds ≤ 1048576)
def OpenSpec.upto (s : _root_.Go.ChangeSpec) : _root_.Go.OpenSpec := { _root_.Go.OpenSpec.ofChange s with cond := some uptoSmall }

/-- 'carrellaw01.LeCrc', WHERE WHAT IT READS IS OF BULK AT MOST 1048576: true; the input reads as it did. -/
def leCrcUptoRow : OpenClaim := { program := "ytghpnhiliihlaaa", sum := "485eec338c07f73a2b5f01f1f138da4abcdb4c2ca4829f3bd778aebffa17b809", func := "carrel/carrellaw01.LeCrc", spec := "leCrc", unfollowed := true, recurses := true, apart := false, narrowed := true }
def LeCrcUptoSaid : Prop := leCrcUptoRow.holds Try.pinned (OpenSpec.upto leCrcSpec)

/-- 'carrellaw01.LeMix', WHERE WHAT IT READS IS OF BULK AT MOST 1048576: true; the input reads as it did. -/
def leMixUptoRow : OpenClaim := { program := "ytghpnhiliihlaaa", sum := "485eec338c07f73a2b5f01f1f138da4abcdb4c2ca4829f3bd778aebffa17b809", func := "carrel/carrellaw01.LeMix", spec := "leMix", unfollowed := true, recurses := true, apart := false, narrowed := true }
def LeMixUptoSaid : Prop := leMixUptoRow.holds Try.pinned (OpenSpec.upto leMixSpec)

/-- 'carrellaw01.LeBursts', WHERE WHAT IT READS IS OF BULK AT MOST 1048576: true; the input reads as it did. -/
def leBurstsUptoRow : OpenClaim := { program := "ytghpnhiliihlaaa", sum := "485eec338c07f73a2b5f01f1f138da4abcdb4c2ca4829f3bd778aebffa17b809", func := "carrel/carrellaw01.LeBursts", spec := "leBursts", unfollowed := true, recurses := true, apart := false, narrowed := true }
def LeBurstsUptoSaid : Prop := leBurstsUptoRow.holds Try.pinned (OpenSpec.upto leBurstsSpec)

/-- 'carrellaw01.LeNums', WHERE WHAT IT READS IS OF BULK AT MOST 1048576: true; the input reads as it did. -/
def leNumsUptoRow : OpenClaim := { program := "ytghpnhiliihlaaa", sum := "485eec338c07f73a2b5f01f1f138da4abcdb4c2ca4829f3bd778aebffa17b809", func := "carrel/carrellaw01.LeNums", spec := "leNums", unfollowed := true, recurses := true, apart := false, narrowed := true }
def LeNumsUptoSaid : Prop := leNumsUptoRow.holds Try.pinned (OpenSpec.upto leNumsSpec)

/-- 'carrellaw01.LeCells', WHERE WHAT IT READS IS OF BULK AT MOST 1048576: true; the input reads as it did. -/
def leCellsUptoRow : OpenClaim := { program := "ytghpnhiliihlaaa", sum := "485eec338c07f73a2b5f01f1f138da4abcdb4c2ca4829f3bd778aebffa17b809", func := "carrel/carrellaw01.LeCells", spec := "leCells", unfollowed := true, recurses := true, apart := false, narrowed := true }
def LeCellsUptoSaid : Prop := leCellsUptoRow.holds Try.pinned (OpenSpec.upto leCellsSpec)

/-- 'carrellaw01.LeBack', WHERE WHAT IT READS IS OF BULK AT MOST 1048576: true; the input reads as it did. -/
def leBackUptoRow : OpenClaim := { program := "ytghpnhiliihlaaa", sum := "485eec338c07f73a2b5f01f1f138da4abcdb4c2ca4829f3bd778aebffa17b809", func := "carrel/carrellaw01.LeBack", spec := "leBack", unfollowed := true, recurses := true, apart := false, narrowed := true }
def LeBackUptoSaid : Prop := leBackUptoRow.holds Try.pinned (OpenSpec.upto leBackSpec)

/-- 'carrellaw03.RootWrites', WHERE WHAT IT READS IS OF BULK AT MOST 1048576: true; the input reads as it did. -/
def rootWritesUptoRow : OpenClaim := { program := "ytghpnhiliihlaaa", sum := "485eec338c07f73a2b5f01f1f138da4abcdb4c2ca4829f3bd778aebffa17b809", func := "carrel/carrellaw03.RootWrites", spec := "rootWrites", unfollowed := true, recurses := true, apart := false, narrowed := true }
def RootWritesUptoSaid : Prop := rootWritesUptoRow.holds Try.pinned (OpenSpec.upto rootWritesSpec)

/-- 'carrellaw03.RootReads', WHERE WHAT IT READS IS OF BULK AT MOST 1048576: true; the input reads as it did. -/
def rootReadsUptoRow : OpenClaim := { program := "ytghpnhiliihlaaa", sum := "485eec338c07f73a2b5f01f1f138da4abcdb4c2ca4829f3bd778aebffa17b809", func := "carrel/carrellaw03.RootReads", spec := "rootReads", unfollowed := true, recurses := true, apart := false, narrowed := true }
def RootReadsUptoSaid : Prop := rootReadsUptoRow.holds Try.pinned (OpenSpec.upto rootReadsSpec)

/-- 'carrellaw03.RootChooses', WHERE WHAT IT READS IS OF BULK AT MOST 1048576: true; the input reads as it did. -/
def rootChoosesUptoRow : OpenClaim := { program := "ytghpnhiliihlaaa", sum := "485eec338c07f73a2b5f01f1f138da4abcdb4c2ca4829f3bd778aebffa17b809", func := "carrel/carrellaw03.RootChooses", spec := "rootChooses", unfollowed := true, recurses := true, apart := false, narrowed := true }
def RootChoosesUptoSaid : Prop := rootChoosesUptoRow.holds Try.pinned (OpenSpec.upto rootChoosesSpec)

/-- 'carrellaw03.RootBack', WHERE WHAT IT READS IS OF BULK AT MOST 1048576: true; the input reads as it did. -/
def rootBackUptoRow : OpenClaim := { program := "ytghpnhiliihlaaa", sum := "485eec338c07f73a2b5f01f1f138da4abcdb4c2ca4829f3bd778aebffa17b809", func := "carrel/carrellaw03.RootBack", spec := "rootBack", unfollowed := true, recurses := true, apart := false, narrowed := true }
def RootBackUptoSaid : Prop := rootBackUptoRow.holds Try.pinned (OpenSpec.upto rootBackSpec)

/-- 'carrellaw03.RootBursts', WHERE WHAT IT READS IS OF BULK AT MOST 1048576: true; the input reads as it did. -/
def rootBurstsUptoRow : OpenClaim := { program := "ytghpnhiliihlaaa", sum := "485eec338c07f73a2b5f01f1f138da4abcdb4c2ca4829f3bd778aebffa17b809", func := "carrel/carrellaw03.RootBursts", spec := "rootBursts", unfollowed := true, recurses := true, apart := false, narrowed := true }
def RootBurstsUptoSaid : Prop := rootBurstsUptoRow.holds Try.pinned (OpenSpec.upto rootBurstsSpec)

/-- 'carrellaw03.RootTorn', WHERE WHAT IT READS IS OF BULK AT MOST 1048576: true; the input reads as it did. -/
def rootTornUptoRow : OpenClaim := { program := "ytghpnhiliihlaaa", sum := "485eec338c07f73a2b5f01f1f138da4abcdb4c2ca4829f3bd778aebffa17b809", func := "carrel/carrellaw03.RootTorn", spec := "rootTorn", unfollowed := true, recurses := true, apart := false, narrowed := true }
def RootTornUptoSaid : Prop := rootTornUptoRow.holds Try.pinned (OpenSpec.upto rootTornSpec)

end Rows
end Go.Proofs.Ytghpnhiliihlaaa
