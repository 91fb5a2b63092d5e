/-
  No cell of these rows narrows 'for every input' (looked for: loops, veiled, ifaces, maps, wideKeys, modest, calm, conditions, laid).
  DERIVED. THE GIVEN ROWS OF THIS SEAT. 6 by the template 'for every input the law returns true; each argument reads behind the call as it read before'; 0 by the template 'total and deterministic' (their statements: YtanpphoehajcgaaTotals.lean).
  GIVEN WITH THE SEED: the statements are not yours to turn. If you find one false, say at which input.
  Laid BY PROGRAM, IN A SANDBOX (cutbox-rows.mjs): the forced cells as the released guide's own fill.sh prints them over the translation 174a9e54828c350b… (all of the seat's roots in one cut). By AI agents, Wed Nov 11 2026. No macro, syntax, notation, axiom, sorry.
-/
import Derived.Test.YtanpphoehajcgaaChecked
import GoSem.Claim
import GoSem.ClaimJoined
import GoSem.ClaimMapViews
import Derived.JoinedTies
import Derived.KernelRfl
namespace Go.Proofs.Ytanpphoehajcgaa
/- THE CELL 'sum', in the pinned program and in every row, IS THE sha256 OF THE DUMP (.gsa) THAT YtanpphoehajcgaaProg.lean LOADS. Nothing in Lean hashes anything: it is a label: what it is worth is what the hold of that sum in a sandbox is worth. -/
noncomputable def Try.pinned : Pinned := { name := "ytanpphoehajcgaa", sum := "174a9e54828c350ba03f92a1e76c481950c4c73d3eaa1afb04018d05d0cd8a78", checked := Try.checked }
namespace Rows
def none {H : Type} : Left H := { results := [], args := [] }

/-- 'scholialaw12.DocsChecks': WHATEVER THE INPUT: true; the input reads as it did. -/
def docsChecksSpec : ChangeSpec := { name := "docsChecks", fn := fun _ => fun
  | [d1, d2, d3] => { results := [.lit (.bool true)], args := [d1, d2, d3] }
  | _ => none }
def docsChecksRow : OpenClaim := { program := "ytanpphoehajcgaa", sum := "174a9e54828c350ba03f92a1e76c481950c4c73d3eaa1afb04018d05d0cd8a78", func := "scholia/scholialaw12.DocsChecks", spec := "docsChecks", inPlace := ["slices.overlaps[scholia/api.Write]"], unfollowed := true, recurses := true, apart := false }
def DocsChecksSaid : Prop := docsChecksRow.holds Try.pinned (OpenSpec.ofChange docsChecksSpec)

/-- ITS FALSE NEIGHBOUR: 'it returns false'. Refute it at one input. -/
def docsChecksWrong : ChangeSpec := { name := "docsChecks", fn := fun _ => fun
  | [d1, d2, d3] => { results := [.lit (.bool false)], args := [d1, d2, d3] }
  | _ => none }
def DocsChecksWrongFalsely : Prop := docsChecksRow.holds Try.pinned (OpenSpec.ofChange docsChecksWrong)

/-- 'scholialaw12.DocsApplies': WHATEVER THE INPUT: true; the input reads as it did. -/
def docsAppliesSpec : ChangeSpec := { name := "docsApplies", fn := fun _ => fun
  | [d1, d2] => { results := [.lit (.bool true)], args := [d1, d2] }
  | _ => none }
def docsAppliesRow : OpenClaim := { program := "ytanpphoehajcgaa", sum := "174a9e54828c350ba03f92a1e76c481950c4c73d3eaa1afb04018d05d0cd8a78", func := "scholia/scholialaw12.DocsApplies", spec := "docsApplies", inPlace := ["slices.overlaps[scholia/api.Write]"], unfollowed := true, recurses := true, apart := false }
def DocsAppliesSaid : Prop := docsAppliesRow.holds Try.pinned (OpenSpec.ofChange docsAppliesSpec)

/-- ITS FALSE NEIGHBOUR: 'it returns false'. Refute it at one input. -/
def docsAppliesWrong : ChangeSpec := { name := "docsApplies", fn := fun _ => fun
  | [d1, d2] => { results := [.lit (.bool false)], args := [d1, d2] }
  | _ => none }
def DocsAppliesWrongFalsely : Prop := docsAppliesRow.holds Try.pinned (OpenSpec.ofChange docsAppliesWrong)

/-- 'scholialaw12.DocsAlike': WHATEVER THE INPUT: true; the input reads as it did. -/
def docsAlikeSpec : ChangeSpec := { name := "docsAlike", fn := fun _ => fun
  | [d] => { results := [.lit (.bool true)], args := [d] }
  | _ => none }
def docsAlikeRow : OpenClaim := { program := "ytanpphoehajcgaa", sum := "174a9e54828c350ba03f92a1e76c481950c4c73d3eaa1afb04018d05d0cd8a78", func := "scholia/scholialaw12.DocsAlike", spec := "docsAlike", inPlace := ["slices.overlaps[scholia/api.Write]"], unfollowed := true, recurses := true, apart := false }
def DocsAlikeSaid : Prop := docsAlikeRow.holds Try.pinned (OpenSpec.ofChange docsAlikeSpec)

/-- ITS FALSE NEIGHBOUR: 'it returns false'. Refute it at one input. -/
def docsAlikeWrong : ChangeSpec := { name := "docsAlike", fn := fun _ => fun
  | [d] => { results := [.lit (.bool false)], args := [d] }
  | _ => none }
def DocsAlikeWrongFalsely : Prop := docsAlikeRow.holds Try.pinned (OpenSpec.ofChange docsAlikeWrong)

/-- 'scholialaw12.DocsBack': WHATEVER THE INPUT: true; the input reads as it did. -/
def docsBackSpec : ChangeSpec := { name := "docsBack", fn := fun _ => fun
  | [d1, d2] => { results := [.lit (.bool true)], args := [d1, d2] }
  | _ => none }
def docsBackRow : OpenClaim := { program := "ytanpphoehajcgaa", sum := "174a9e54828c350ba03f92a1e76c481950c4c73d3eaa1afb04018d05d0cd8a78", func := "scholia/scholialaw12.DocsBack", spec := "docsBack", inPlace := ["slices.overlaps[scholia/api.Write]"], unfollowed := true, recurses := true, apart := false }
def DocsBackSaid : Prop := docsBackRow.holds Try.pinned (OpenSpec.ofChange docsBackSpec)

/-- ITS FALSE NEIGHBOUR: 'it returns false'. Refute it at one input. -/
def docsBackWrong : ChangeSpec := { name := "docsBack", fn := fun _ => fun
  | [d1, d2] => { results := [.lit (.bool false)], args := [d1, d2] }
  | _ => none }
def DocsBackWrongFalsely : Prop := docsBackRow.holds Try.pinned (OpenSpec.ofChange docsBackWrong)

/-- 'scholialaw12.DocsJoins': WHATEVER THE INPUT: true; the input reads as it did. -/
def docsJoinsSpec : ChangeSpec := { name := "docsJoins", fn := fun _ => fun
  | [d1, d2] => { results := [.lit (.bool true)], args := [d1, d2] }
  | _ => none }
def docsJoinsRow : OpenClaim := { program := "ytanpphoehajcgaa", sum := "174a9e54828c350ba03f92a1e76c481950c4c73d3eaa1afb04018d05d0cd8a78", func := "scholia/scholialaw12.DocsJoins", spec := "docsJoins", inPlace := ["slices.overlaps[scholia/api.Write]"], unfollowed := true, recurses := true, apart := false }
def DocsJoinsSaid : Prop := docsJoinsRow.holds Try.pinned (OpenSpec.ofChange docsJoinsSpec)

/-- ITS FALSE NEIGHBOUR: 'it returns false'. Refute it at one input. -/
def docsJoinsWrong : ChangeSpec := { name := "docsJoins", fn := fun _ => fun
  | [d1, d2] => { results := [.lit (.bool false)], args := [d1, d2] }
  | _ => none }
def DocsJoinsWrongFalsely : Prop := docsJoinsRow.holds Try.pinned (OpenSpec.ofChange docsJoinsWrong)

/-- 'scholialaw12.DocsOnce': WHATEVER THE INPUT: true; the input reads as it did. -/
def docsOnceSpec : ChangeSpec := { name := "docsOnce", fn := fun _ => fun
  | [d] => { results := [.lit (.bool true)], args := [d] }
  | _ => none }
def docsOnceRow : OpenClaim := { program := "ytanpphoehajcgaa", sum := "174a9e54828c350ba03f92a1e76c481950c4c73d3eaa1afb04018d05d0cd8a78", func := "scholia/scholialaw12.DocsOnce", spec := "docsOnce", inPlace := ["slices.overlaps[scholia/api.Write]"], unfollowed := true, recurses := true, apart := false }
def DocsOnceSaid : Prop := docsOnceRow.holds Try.pinned (OpenSpec.ofChange docsOnceSpec)

/-- ITS FALSE NEIGHBOUR: 'it returns false'. Refute it at one input. -/
def docsOnceWrong : ChangeSpec := { name := "docsOnce", fn := fun _ => fun
  | [d] => { results := [.lit (.bool false)], args := [d] }
  | _ => none }
def DocsOnceWrongFalsely : Prop := docsOnceRow.holds Try.pinned (OpenSpec.ofChange docsOnceWrong)

/- THE SECOND FORM. 'bulk': how many values and letters a reading holds, each counted each time it is reached (what is shared counts as often as it is met; a slice's spare places count too). A statement '..UptoSaid' is the law's where the arguments, and the package variables that the reading takes, are together of bulk at most 1048576: NARROWER than '..Said'. Prove '..Said' where nothing that the law and all that it calls make is longer than what came in: it says more and counts as full. Else prove '..UptoSaid'. A law counts once. -/
mutual
def uptoBulk {H : Type} : DataW H → Nat
  | .lit (.string bytes) => bytes.length + 1
  | .lit _ => 1
  | .nil => 1
  | .ptr d => uptoBulk d + 1
  | .slice elems spare => uptoBulkAll elems + uptoBulkAll spare + 1
  | .agg parts => uptoBulkAll parts + 1
  | .iface _ d => uptoBulk d + 1
  | .map entries => uptoBulkEntries entries + 1
  | .held _ => 1
def uptoBulkAll {H : Type} : List (DataW H) → Nat
  | [] => 0
  | d :: r => uptoBulk d + uptoBulkAll r
def uptoBulkEntries {H : Type} : List (Lit × DataW H) → Nat
  | [] => 0
  | x :: r => uptoBulkEntry x + uptoBulkEntries r
def uptoBulkEntry {H : Type} : Lit × DataW H → Nat
  | (.string bytes, d) => bytes.length + uptoBulk d + 1
  | (_, d) => uptoBulk d + 1
 end
def uptoSmall : (H : Type) → List (DataW H) → Bool := fun _ ds => decide (uptoBulkAll ds ≤ 1048576)
def OpenSpec.upto (s : _root_.Go.ChangeSpec) : _root_.Go.OpenSpec := { _root_.Go.OpenSpec.ofChange s with cond := some uptoSmall }

/-- 'scholialaw12.DocsChecks', WHERE WHAT IT READS IS OF BULK AT MOST 1048576: true; the input reads as it did. -/
def docsChecksUptoRow : OpenClaim := { program := "ytanpphoehajcgaa", sum := "174a9e54828c350ba03f92a1e76c481950c4c73d3eaa1afb04018d05d0cd8a78", func := "scholia/scholialaw12.DocsChecks", spec := "docsChecks", inPlace := ["slices.overlaps[scholia/api.Write]"], unfollowed := true, recurses := true, apart := false, narrowed := true }
def DocsChecksUptoSaid : Prop := docsChecksUptoRow.holds Try.pinned (OpenSpec.upto docsChecksSpec)

/-- 'scholialaw12.DocsApplies', WHERE WHAT IT READS IS OF BULK AT MOST 1048576: true; the input reads as it did. -/
def docsAppliesUptoRow : OpenClaim := { program := "ytanpphoehajcgaa", sum := "174a9e54828c350ba03f92a1e76c481950c4c73d3eaa1afb04018d05d0cd8a78", func := "scholia/scholialaw12.DocsApplies", spec := "docsApplies", inPlace := ["slices.overlaps[scholia/api.Write]"], unfollowed := true, recurses := true, apart := false, narrowed := true }
def DocsAppliesUptoSaid : Prop := docsAppliesUptoRow.holds Try.pinned (OpenSpec.upto docsAppliesSpec)

/-- 'scholialaw12.DocsAlike', WHERE WHAT IT READS IS OF BULK AT MOST 1048576: true; the input reads as it did. -/
def docsAlikeUptoRow : OpenClaim := { program := "ytanpphoehajcgaa", sum := "174a9e54828c350ba03f92a1e76c481950c4c73d3eaa1afb04018d05d0cd8a78", func := "scholia/scholialaw12.DocsAlike", spec := "docsAlike", inPlace := ["slices.overlaps[scholia/api.Write]"], unfollowed := true, recurses := true, apart := false, narrowed := true }
def DocsAlikeUptoSaid : Prop := docsAlikeUptoRow.holds Try.pinned (OpenSpec.upto docsAlikeSpec)

/-- 'scholialaw12.DocsBack', WHERE WHAT IT READS IS OF BULK AT MOST 1048576: true; the input reads as it did. -/
def docsBackUptoRow : OpenClaim := { program := "ytanpphoehajcgaa", sum := "174a9e54828c350ba03f92a1e76c481950c4c73d3eaa1afb04018d05d0cd8a78", func := "scholia/scholialaw12.DocsBack", spec := "docsBack", inPlace := ["slices.overlaps[scholia/api.Write]"], unfollowed := true, recurses := true, apart := false, narrowed := true }
def DocsBackUptoSaid : Prop := docsBackUptoRow.holds Try.pinned (OpenSpec.upto docsBackSpec)

/-- 'scholialaw12.DocsJoins', WHERE WHAT IT READS IS OF BULK AT MOST 1048576: true; the input reads as it did. -/
def docsJoinsUptoRow : OpenClaim := { program := "ytanpphoehajcgaa", sum := "174a9e54828c350ba03f92a1e76c481950c4c73d3eaa1afb04018d05d0cd8a78", func := "scholia/scholialaw12.DocsJoins", spec := "docsJoins", inPlace := ["slices.overlaps[scholia/api.Write]"], unfollowed := true, recurses := true, apart := false, narrowed := true }
def DocsJoinsUptoSaid : Prop := docsJoinsUptoRow.holds Try.pinned (OpenSpec.upto docsJoinsSpec)

/-- 'scholialaw12.DocsOnce', WHERE WHAT IT READS IS OF BULK AT MOST 1048576: true; the input reads as it did. -/
def docsOnceUptoRow : OpenClaim := { program := "ytanpphoehajcgaa", sum := "174a9e54828c350ba03f92a1e76c481950c4c73d3eaa1afb04018d05d0cd8a78", func := "scholia/scholialaw12.DocsOnce", spec := "docsOnce", inPlace := ["slices.overlaps[scholia/api.Write]"], unfollowed := true, recurses := true, apart := false, narrowed := true }
def DocsOnceUptoSaid : Prop := docsOnceUptoRow.holds Try.pinned (OpenSpec.upto docsOnceSpec)

end Rows
end Go.Proofs.Ytanpphoehajcgaa
