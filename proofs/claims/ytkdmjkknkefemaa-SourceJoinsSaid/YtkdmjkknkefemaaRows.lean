/-
  No cell of these rows narrows 'for every input' (looked for: loops, veiled, ifaces, maps, wideKeys, modest, calm, conditions, laid).
  DERIVED. THE GIVEN ROWS OF THIS SEAT. 5 by the template 'for every input the law returns true; each argument reads behind the call as it read before'; 0 by the template 'total and deterministic' (their statements: YtkdmjkknkefemaaTotals.lean).
  GIVEN WITH THE SEED: the statements are not yours to turn. If you find one false, say at which input.
  Laid BY PROGRAM, IN A SANDBOX (cutbox-rows.mjs): the forced cells as the released guide's own fill.sh prints them over the translation ff6538a6a5c11e33… (all of the seat's roots in one cut). By AI agents, Wed Nov 11 2026. No macro, syntax, notation, axiom, sorry.
-/
import Derived.Test.YtkdmjkknkefemaaChecked
import GoSem.Claim
import GoSem.ClaimJoined
import GoSem.ClaimMapViews
import Derived.JoinedTies
import Derived.KernelRfl
namespace Go.Proofs.Ytkdmjkknkefemaa
/- THE CELL 'sum', in the pinned program and in every row, IS THE sha256 OF THE DUMP (.gsa) THAT YtkdmjkknkefemaaProg.lean LOADS. Nothing in Lean hashes anything: it is a label: what it is worth is what the hold of that sum in a sandbox is worth. -/
noncomputable def Try.pinned : Pinned := { name := "ytkdmjkknkefemaa", sum := "ff6538a6a5c11e338f7003216f337507c3290dd42b8dc0c2836bdc9c4f131d42", checked := Try.checked }
namespace Rows
def none {H : Type} : Left H := { results := [], args := [] }

/-- 'carrellaw20.SourceWords': WHATEVER THE INPUT: true; the input reads as it did. -/
def sourceWordsSpec : ChangeSpec := { name := "sourceWords", fn := fun _ => fun
  | [d1, d2] => { results := [.lit (.bool true)], args := [d1, d2] }
  | _ => none }
def sourceWordsRow : OpenClaim := { program := "ytkdmjkknkefemaa", sum := "ff6538a6a5c11e338f7003216f337507c3290dd42b8dc0c2836bdc9c4f131d42", func := "carrel/carrellaw20.SourceWords", spec := "sourceWords", apart := false }
def SourceWordsSaid : Prop := sourceWordsRow.holds Try.pinned (OpenSpec.ofChange sourceWordsSpec)

/-- ITS FALSE NEIGHBOUR: 'it returns false'. Refute it at one input. -/
def sourceWordsWrong : ChangeSpec := { name := "sourceWords", fn := fun _ => fun
  | [d1, d2] => { results := [.lit (.bool false)], args := [d1, d2] }
  | _ => none }
def SourceWordsWrongFalsely : Prop := sourceWordsRow.holds Try.pinned (OpenSpec.ofChange sourceWordsWrong)

/-- 'carrellaw20.SourceParses': WHATEVER THE INPUT: true; the input reads as it did. -/
def sourceParsesSpec : ChangeSpec := { name := "sourceParses", fn := fun _ => fun
  | [d1, d2, d3] => { results := [.lit (.bool true)], args := [d1, d2, d3] }
  | _ => none }
def sourceParsesRow : OpenClaim := { program := "ytkdmjkknkefemaa", sum := "ff6538a6a5c11e338f7003216f337507c3290dd42b8dc0c2836bdc9c4f131d42", func := "carrel/carrellaw20.SourceParses", spec := "sourceParses", apart := false }
def SourceParsesSaid : Prop := sourceParsesRow.holds Try.pinned (OpenSpec.ofChange sourceParsesSpec)

/-- ITS FALSE NEIGHBOUR: 'it returns false'. Refute it at one input. -/
def sourceParsesWrong : ChangeSpec := { name := "sourceParses", fn := fun _ => fun
  | [d1, d2, d3] => { results := [.lit (.bool false)], args := [d1, d2, d3] }
  | _ => none }
def SourceParsesWrongFalsely : Prop := sourceParsesRow.holds Try.pinned (OpenSpec.ofChange sourceParsesWrong)

/-- 'carrellaw20.SourceTrims': WHATEVER THE INPUT: true; the input reads as it did. -/
def sourceTrimsSpec : ChangeSpec := { name := "sourceTrims", fn := fun _ => fun
  | [d] => { results := [.lit (.bool true)], args := [d] }
  | _ => none }
def sourceTrimsRow : OpenClaim := { program := "ytkdmjkknkefemaa", sum := "ff6538a6a5c11e338f7003216f337507c3290dd42b8dc0c2836bdc9c4f131d42", func := "carrel/carrellaw20.SourceTrims", spec := "sourceTrims", apart := false }
def SourceTrimsSaid : Prop := sourceTrimsRow.holds Try.pinned (OpenSpec.ofChange sourceTrimsSpec)

/-- ITS FALSE NEIGHBOUR: 'it returns false'. Refute it at one input. -/
def sourceTrimsWrong : ChangeSpec := { name := "sourceTrims", fn := fun _ => fun
  | [d] => { results := [.lit (.bool false)], args := [d] }
  | _ => none }
def SourceTrimsWrongFalsely : Prop := sourceTrimsRow.holds Try.pinned (OpenSpec.ofChange sourceTrimsWrong)

/-- 'carrellaw20.SourceEach': WHATEVER THE INPUT: true; the input reads as it did. -/
def sourceEachSpec : ChangeSpec := { name := "sourceEach", fn := fun _ => fun
  | [d] => { results := [.lit (.bool true)], args := [d] }
  | _ => none }
def sourceEachRow : OpenClaim := { program := "ytkdmjkknkefemaa", sum := "ff6538a6a5c11e338f7003216f337507c3290dd42b8dc0c2836bdc9c4f131d42", func := "carrel/carrellaw20.SourceEach", spec := "sourceEach", unfollowed := true, recurses := true, apart := false }
def SourceEachSaid : Prop := sourceEachRow.holds Try.pinned (OpenSpec.ofChange sourceEachSpec)

/-- ITS FALSE NEIGHBOUR: 'it returns false'. Refute it at one input. -/
def sourceEachWrong : ChangeSpec := { name := "sourceEach", fn := fun _ => fun
  | [d] => { results := [.lit (.bool false)], args := [d] }
  | _ => none }
def SourceEachWrongFalsely : Prop := sourceEachRow.holds Try.pinned (OpenSpec.ofChange sourceEachWrong)

/-- 'carrellaw20.SourceJoins': WHATEVER THE INPUT: true; the input reads as it did. -/
def sourceJoinsSpec : ChangeSpec := { name := "sourceJoins", fn := fun _ => fun
  | [d1, d2] => { results := [.lit (.bool true)], args := [d1, d2] }
  | _ => none }
def sourceJoinsRow : OpenClaim := { program := "ytkdmjkknkefemaa", sum := "ff6538a6a5c11e338f7003216f337507c3290dd42b8dc0c2836bdc9c4f131d42", func := "carrel/carrellaw20.SourceJoins", spec := "sourceJoins", unfollowed := true, recurses := true, apart := false }
def SourceJoinsSaid : Prop := sourceJoinsRow.holds Try.pinned (OpenSpec.ofChange sourceJoinsSpec)

/-- ITS FALSE NEIGHBOUR: 'it returns false'. Refute it at one input. -/
def sourceJoinsWrong : ChangeSpec := { name := "sourceJoins", fn := fun _ => fun
  | [d1, d2] => { results := [.lit (.bool false)], args := [d1, d2] }
  | _ => none }
def SourceJoinsWrongFalsely : Prop := sourceJoinsRow.holds Try.pinned (OpenSpec.ofChange sourceJoinsWrong)

/- THE SECOND FORM. 'bulk': how many values and letters a reading holds, each counted each time it is reached (what is shared counts as often as it is met; a slice's spare places count too). A statement '..UptoSaid' is the law's where the arguments, and the package variables that the reading takes, are together of bulk at most 1048576: NARROWER than '..Said'. Prove '..Said' where nothing that the law and all that it calls make is longer than what came in: it says more and counts as full. Else prove '..UptoSaid'. A law counts once. -/
mutual
def uptoBulk {H : Type} : DataW H → Nat
  | .lit (.string bytes) => bytes.length + 1
  | .lit _ => 1
  | .nil => 1
  | .ptr d => uptoBulk d + 1
  | .slice elems spare => uptoBulkAll elems + uptoBulkAll spare + 1
  | .agg parts => uptoBulkAll parts + 1
  | .iface _ d => uptoBulk d + 1
  | .map entries => uptoBulkEntries entries + 1
  | .held _ => 1
def uptoBulkAll {H : Type} : List (DataW H) → Nat
  | [] => 0
  | d :: r => uptoBulk d + uptoBulkAll r
def uptoBulkEntries {H : Type} : List (Lit × DataW H) → Nat
  | [] => 0
  | x :: r => uptoBulkEntry x + uptoBulkEntries r
def uptoBulkEntry {H : Type} : Lit × DataW H → Nat
  | (.string bytes, d) => bytes.length + uptoBulk d + 1
  | (_, d) => uptoBulk d + 1
 end
def uptoSmall : (H : Type) → List (DataW H) → Bool := fun _ ds => decide (uptoBulkAll ds ≤ 1048576)
def OpenSpec.upto (s : _root_.Go.ChangeSpec) : _root_.Go.OpenSpec := { _root_.Go.OpenSpec.ofChange s with cond := some uptoSmall }

/-- 'carrellaw20.SourceWords', WHERE WHAT IT READS IS OF BULK AT MOST 1048576: true; the input reads as it did. -/
def sourceWordsUptoRow : OpenClaim := { program := "ytkdmjkknkefemaa", sum := "ff6538a6a5c11e338f7003216f337507c3290dd42b8dc0c2836bdc9c4f131d42", func := "carrel/carrellaw20.SourceWords", spec := "sourceWords", apart := false, narrowed := true }
def SourceWordsUptoSaid : Prop := sourceWordsUptoRow.holds Try.pinned (OpenSpec.upto sourceWordsSpec)

/-- 'carrellaw20.SourceParses', WHERE WHAT IT READS IS OF BULK AT MOST 1048576: true; the input reads as it did. -/
def sourceParsesUptoRow : OpenClaim := { program := "ytkdmjkknkefemaa", sum := "ff6538a6a5c11e338f7003216f337507c3290dd42b8dc0c2836bdc9c4f131d42", func := "carrel/carrellaw20.SourceParses", spec := "sourceParses", apart := false, narrowed := true }
def SourceParsesUptoSaid : Prop := sourceParsesUptoRow.holds Try.pinned (OpenSpec.upto sourceParsesSpec)

/-- 'carrellaw20.SourceTrims', WHERE WHAT IT READS IS OF BULK AT MOST 1048576: true; the input reads as it did. -/
def sourceTrimsUptoRow : OpenClaim := { program := "ytkdmjkknkefemaa", sum := "ff6538a6a5c11e338f7003216f337507c3290dd42b8dc0c2836bdc9c4f131d42", func := "carrel/carrellaw20.SourceTrims", spec := "sourceTrims", apart := false, narrowed := true }
def SourceTrimsUptoSaid : Prop := sourceTrimsUptoRow.holds Try.pinned (OpenSpec.upto sourceTrimsSpec)

/-- 'carrellaw20.SourceEach', WHERE WHAT IT READS IS OF BULK AT MOST 1048576: true; the input reads as it did. -/
def sourceEachUptoRow : OpenClaim := { program := "ytkdmjkknkefemaa", sum := "ff6538a6a5c11e338f7003216f337507c3290dd42b8dc0c2836bdc9c4f131d42", func := "carrel/carrellaw20.SourceEach", spec := "sourceEach", unfollowed := true, recurses := true, apart := false, narrowed := true }
def SourceEachUptoSaid : Prop := sourceEachUptoRow.holds Try.pinned (OpenSpec.upto sourceEachSpec)

/-- 'carrellaw20.SourceJoins', WHERE WHAT IT READS IS OF BULK AT MOST 1048576: true; the input reads as it did. -/
def sourceJoinsUptoRow : OpenClaim := { program := "ytkdmjkknkefemaa", sum := "ff6538a6a5c11e338f7003216f337507c3290dd42b8dc0c2836bdc9c4f131d42", func := "carrel/carrellaw20.SourceJoins", spec := "sourceJoins", unfollowed := true, recurses := true, apart := false, narrowed := true }
def SourceJoinsUptoSaid : Prop := sourceJoinsUptoRow.holds Try.pinned (OpenSpec.upto sourceJoinsSpec)

end Rows
end Go.Proofs.Ytkdmjkknkefemaa
