/-
  No cell of these rows narrows 'for every input' (looked for: loops, veiled, ifaces, maps, wideKeys, modest, calm, conditions, laid).
  DERIVED. THE GIVEN ROWS OF THIS SEAT. 14 by the template 'for every input the law returns true; each argument reads behind the call as it read before'; 0 by the template 'total and deterministic' (their statements: YtomchclmnmhjaaaTotals.lean).
  GIVEN WITH THE SEED: the statements are not yours to turn. If you find one false, say at which input.
  Laid BY PROGRAM, IN A SANDBOX (cutbox-rows.mjs): the forced cells as the released guide's own fill.sh prints them over the translation 1fe21bb339cf16d4… (all of the seat's roots in one cut). By AI agents, Wed Nov 11 2026. No macro, syntax, notation, axiom, sorry.
-/
import Derived.Test.YtomchclmnmhjaaaChecked
import GoSem.Claim
import GoSem.ClaimJoined
import GoSem.ClaimMapViews
import Derived.JoinedTies
import Derived.KernelRfl
namespace Go.Proofs.Ytomchclmnmhjaaa
/- THE CELL 'sum', in the pinned program and in every row, IS THE sha256 OF THE DUMP (.gsa) THAT YtomchclmnmhjaaaProg.lean LOADS. Nothing in Lean hashes anything: it is a label: what it is worth is what the hold of that sum in a sandbox is worth. -/
noncomputable def Try.pinned : Pinned := { name := "ytomchclmnmhjaaa", sum := "1fe21bb339cf16d4d0250f8ae8013e813cd4859588b74a64d1dbb5134cf05752", checked := Try.checked }
namespace Rows
def none {H : Type} : Left H := { results := [], args := [] }

/-- 'scholialaw08.DotsDots': WHATEVER THE INPUT: true; the input reads as it did. -/
def dotsDotsSpec : ChangeSpec := { name := "dotsDots", fn := fun _ => fun
  | [d1, d2, d3] => { results := [.lit (.bool true)], args := [d1, d2, d3] }
  | _ => none }
def dotsDotsRow : OpenClaim := { program := "ytomchclmnmhjaaa", sum := "1fe21bb339cf16d4d0250f8ae8013e813cd4859588b74a64d1dbb5134cf05752", func := "scholia/scholialaw08.DotsDots", spec := "dotsDots", unfollowed := true, recurses := true, apart := false }
def DotsDotsSaid : Prop := dotsDotsRow.holds Try.pinned (OpenSpec.ofChange dotsDotsSpec)

/-- ITS FALSE NEIGHBOUR: 'it returns false'. Refute it at one input. -/
def dotsDotsWrong : ChangeSpec := { name := "dotsDots", fn := fun _ => fun
  | [d1, d2, d3] => { results := [.lit (.bool false)], args := [d1, d2, d3] }
  | _ => none }
def DotsDotsWrongFalsely : Prop := dotsDotsRow.holds Try.pinned (OpenSpec.ofChange dotsDotsWrong)

/-- 'scholialaw08.DotsLattice': WHATEVER THE INPUT: true; the input reads as it did. -/
def dotsLatticeSpec : ChangeSpec := { name := "dotsLattice", fn := fun _ => fun
  | [d1, d2, d3] => { results := [.lit (.bool true)], args := [d1, d2, d3] }
  | _ => none }
def dotsLatticeRow : OpenClaim := { program := "ytomchclmnmhjaaa", sum := "1fe21bb339cf16d4d0250f8ae8013e813cd4859588b74a64d1dbb5134cf05752", func := "scholia/scholialaw08.DotsLattice", spec := "dotsLattice", unfollowed := true, recurses := true, apart := false }
def DotsLatticeSaid : Prop := dotsLatticeRow.holds Try.pinned (OpenSpec.ofChange dotsLatticeSpec)

/-- ITS FALSE NEIGHBOUR: 'it returns false'. Refute it at one input. -/
def dotsLatticeWrong : ChangeSpec := { name := "dotsLattice", fn := fun _ => fun
  | [d1, d2, d3] => { results := [.lit (.bool false)], args := [d1, d2, d3] }
  | _ => none }
def DotsLatticeWrongFalsely : Prop := dotsLatticeRow.holds Try.pinned (OpenSpec.ofChange dotsLatticeWrong)

/-- 'scholialaw08.DotsVectors': WHATEVER THE INPUT: true; the input reads as it did. -/
def dotsVectorsSpec : ChangeSpec := { name := "dotsVectors", fn := fun _ => fun
  | [d1, d2] => { results := [.lit (.bool true)], args := [d1, d2] }
  | _ => none }
def dotsVectorsRow : OpenClaim := { program := "ytomchclmnmhjaaa", sum := "1fe21bb339cf16d4d0250f8ae8013e813cd4859588b74a64d1dbb5134cf05752", func := "scholia/scholialaw08.DotsVectors", spec := "dotsVectors", unfollowed := true, recurses := true, apart := false }
def DotsVectorsSaid : Prop := dotsVectorsRow.holds Try.pinned (OpenSpec.ofChange dotsVectorsSpec)

/-- ITS FALSE NEIGHBOUR: 'it returns false'. Refute it at one input. -/
def dotsVectorsWrong : ChangeSpec := { name := "dotsVectors", fn := fun _ => fun
  | [d1, d2] => { results := [.lit (.bool false)], args := [d1, d2] }
  | _ => none }
def DotsVectorsWrongFalsely : Prop := dotsVectorsRow.holds Try.pinned (OpenSpec.ofChange dotsVectorsWrong)

/-- 'scholialaw08.DotsTidy': WHATEVER THE INPUT: true; the input reads as it did. -/
def dotsTidySpec : ChangeSpec := { name := "dotsTidy", fn := fun _ => fun
  | [d1, d2] => { results := [.lit (.bool true)], args := [d1, d2] }
  | _ => none }
def dotsTidyRow : OpenClaim := { program := "ytomchclmnmhjaaa", sum := "1fe21bb339cf16d4d0250f8ae8013e813cd4859588b74a64d1dbb5134cf05752", func := "scholia/scholialaw08.DotsTidy", spec := "dotsTidy", unfollowed := true, recurses := true, apart := false }
def DotsTidySaid : Prop := dotsTidyRow.holds Try.pinned (OpenSpec.ofChange dotsTidySpec)

/-- ITS FALSE NEIGHBOUR: 'it returns false'. Refute it at one input. -/
def dotsTidyWrong : ChangeSpec := { name := "dotsTidy", fn := fun _ => fun
  | [d1, d2] => { results := [.lit (.bool false)], args := [d1, d2] }
  | _ => none }
def DotsTidyWrongFalsely : Prop := dotsTidyRow.holds Try.pinned (OpenSpec.ofChange dotsTidyWrong)

/-- 'scholialaw08.DotsUnion': WHATEVER THE INPUT: true; the input reads as it did. -/
def dotsUnionSpec : ChangeSpec := { name := "dotsUnion", fn := fun _ => fun
  | [d1, d2, d3] => { results := [.lit (.bool true)], args := [d1, d2, d3] }
  | _ => none }
def dotsUnionRow : OpenClaim := { program := "ytomchclmnmhjaaa", sum := "1fe21bb339cf16d4d0250f8ae8013e813cd4859588b74a64d1dbb5134cf05752", func := "scholia/scholialaw08.DotsUnion", spec := "dotsUnion", unfollowed := true, recurses := true, apart := false }
def DotsUnionSaid : Prop := dotsUnionRow.holds Try.pinned (OpenSpec.ofChange dotsUnionSpec)

/-- ITS FALSE NEIGHBOUR: 'it returns false'. Refute it at one input. -/
def dotsUnionWrong : ChangeSpec := { name := "dotsUnion", fn := fun _ => fun
  | [d1, d2, d3] => { results := [.lit (.bool false)], args := [d1, d2, d3] }
  | _ => none }
def DotsUnionWrongFalsely : Prop := dotsUnionRow.holds Try.pinned (OpenSpec.ofChange dotsUnionWrong)

/-- 'scholialaw08.DotsKnown': WHATEVER THE INPUT: true; the input reads as it did. -/
def dotsKnownSpec : ChangeSpec := { name := "dotsKnown", fn := fun _ => fun
  | [d1, d2, d3] => { results := [.lit (.bool true)], args := [d1, d2, d3] }
  | _ => none }
def dotsKnownRow : OpenClaim := { program := "ytomchclmnmhjaaa", sum := "1fe21bb339cf16d4d0250f8ae8013e813cd4859588b74a64d1dbb5134cf05752", func := "scholia/scholialaw08.DotsKnown", spec := "dotsKnown", unfollowed := true, recurses := true, apart := false }
def DotsKnownSaid : Prop := dotsKnownRow.holds Try.pinned (OpenSpec.ofChange dotsKnownSpec)

/-- ITS FALSE NEIGHBOUR: 'it returns false'. Refute it at one input. -/
def dotsKnownWrong : ChangeSpec := { name := "dotsKnown", fn := fun _ => fun
  | [d1, d2, d3] => { results := [.lit (.bool false)], args := [d1, d2, d3] }
  | _ => none }
def DotsKnownWrongFalsely : Prop := dotsKnownRow.holds Try.pinned (OpenSpec.ofChange dotsKnownWrong)

/-- 'scholialaw08.DotsBack': WHATEVER THE INPUT: true; the input reads as it did. -/
def dotsBackSpec : ChangeSpec := { name := "dotsBack", fn := fun _ => fun
  | [d1, d2] => { results := [.lit (.bool true)], args := [d1, d2] }
  | _ => none }
def dotsBackRow : OpenClaim := { program := "ytomchclmnmhjaaa", sum := "1fe21bb339cf16d4d0250f8ae8013e813cd4859588b74a64d1dbb5134cf05752", func := "scholia/scholialaw08.DotsBack", spec := "dotsBack", unfollowed := true, recurses := true, apart := false }
def DotsBackSaid : Prop := dotsBackRow.holds Try.pinned (OpenSpec.ofChange dotsBackSpec)

/-- ITS FALSE NEIGHBOUR: 'it returns false'. Refute it at one input. -/
def dotsBackWrong : ChangeSpec := { name := "dotsBack", fn := fun _ => fun
  | [d1, d2] => { results := [.lit (.bool false)], args := [d1, d2] }
  | _ => none }
def DotsBackWrongFalsely : Prop := dotsBackRow.holds Try.pinned (OpenSpec.ofChange dotsBackWrong)

/-- 'scholialaw08.DotsBytes': WHATEVER THE INPUT: true; the input reads as it did. -/
def dotsBytesSpec : ChangeSpec := { name := "dotsBytes", fn := fun _ => fun
  | [d1, d2, d3] => { results := [.lit (.bool true)], args := [d1, d2, d3] }
  | _ => none }
def dotsBytesRow : OpenClaim := { program := "ytomchclmnmhjaaa", sum := "1fe21bb339cf16d4d0250f8ae8013e813cd4859588b74a64d1dbb5134cf05752", func := "scholia/scholialaw08.DotsBytes", spec := "dotsBytes", unfollowed := true, recurses := true, apart := false }
def DotsBytesSaid : Prop := dotsBytesRow.holds Try.pinned (OpenSpec.ofChange dotsBytesSpec)

/-- ITS FALSE NEIGHBOUR: 'it returns false'. Refute it at one input. -/
def dotsBytesWrong : ChangeSpec := { name := "dotsBytes", fn := fun _ => fun
  | [d1, d2, d3] => { results := [.lit (.bool false)], args := [d1, d2, d3] }
  | _ => none }
def DotsBytesWrongFalsely : Prop := dotsBytesRow.holds Try.pinned (OpenSpec.ofChange dotsBytesWrong)

/-- 'scholialaw13.PastKept': WHATEVER THE INPUT: true; the input reads as it did. -/
def pastKeptSpec : ChangeSpec := { name := "pastKept", fn := fun _ => fun
  | [d1, d2, d3] => { results := [.lit (.bool true)], args := [d1, d2, d3] }
  | _ => none }
def pastKeptRow : OpenClaim := { program := "ytomchclmnmhjaaa", sum := "1fe21bb339cf16d4d0250f8ae8013e813cd4859588b74a64d1dbb5134cf05752", func := "scholia/scholialaw13.PastKept", spec := "pastKept", apart := false }
def PastKeptSaid : Prop := pastKeptRow.holds Try.pinned (OpenSpec.ofChange pastKeptSpec)

/-- ITS FALSE NEIGHBOUR: 'it returns false'. Refute it at one input. -/
def pastKeptWrong : ChangeSpec := { name := "pastKept", fn := fun _ => fun
  | [d1, d2, d3] => { results := [.lit (.bool false)], args := [d1, d2, d3] }
  | _ => none }
def PastKeptWrongFalsely : Prop := pastKeptRow.holds Try.pinned (OpenSpec.ofChange pastKeptWrong)

/-- 'scholialaw13.PastChanges': WHATEVER THE INPUT: true; the input reads as it did. -/
def pastChangesSpec : ChangeSpec := { name := "pastChanges", fn := fun _ => fun
  | [d1, d2, d3, d4] => { results := [.lit (.bool true)], args := [d1, d2, d3, d4] }
  | _ => none }
def pastChangesRow : OpenClaim := { program := "ytomchclmnmhjaaa", sum := "1fe21bb339cf16d4d0250f8ae8013e813cd4859588b74a64d1dbb5134cf05752", func := "scholia/scholialaw13.PastChanges", spec := "pastChanges", unfollowed := true, recurses := true, apart := false }
def PastChangesSaid : Prop := pastChangesRow.holds Try.pinned (OpenSpec.ofChange pastChangesSpec)

/-- ITS FALSE NEIGHBOUR: 'it returns false'. Refute it at one input. -/
def pastChangesWrong : ChangeSpec := { name := "pastChanges", fn := fun _ => fun
  | [d1, d2, d3, d4] => { results := [.lit (.bool false)], args := [d1, d2, d3, d4] }
  | _ => none }
def PastChangesWrongFalsely : Prop := pastChangesRow.holds Try.pinned (OpenSpec.ofChange pastChangesWrong)

/-- 'scholialaw13.PastAll': WHATEVER THE INPUT: true; the input reads as it did. -/
def pastAllSpec : ChangeSpec := { name := "pastAll", fn := fun _ => fun
  | [d1, d2, d3, d4] => { results := [.lit (.bool true)], args := [d1, d2, d3, d4] }
  | _ => none }
def pastAllRow : OpenClaim := { program := "ytomchclmnmhjaaa", sum := "1fe21bb339cf16d4d0250f8ae8013e813cd4859588b74a64d1dbb5134cf05752", func := "scholia/scholialaw13.PastAll", spec := "pastAll", unfollowed := true, recurses := true, apart := false }
def PastAllSaid : Prop := pastAllRow.holds Try.pinned (OpenSpec.ofChange pastAllSpec)

/-- ITS FALSE NEIGHBOUR: 'it returns false'. Refute it at one input. -/
def pastAllWrong : ChangeSpec := { name := "pastAll", fn := fun _ => fun
  | [d1, d2, d3, d4] => { results := [.lit (.bool false)], args := [d1, d2, d3, d4] }
  | _ => none }
def PastAllWrongFalsely : Prop := pastAllRow.holds Try.pinned (OpenSpec.ofChange pastAllWrong)

/-- 'scholialaw13.PastSince': WHATEVER THE INPUT: true; the input reads as it did. -/
def pastSinceSpec : ChangeSpec := { name := "pastSince", fn := fun _ => fun
  | [d1, d2, d3, d4] => { results := [.lit (.bool true)], args := [d1, d2, d3, d4] }
  | _ => none }
def pastSinceRow : OpenClaim := { program := "ytomchclmnmhjaaa", sum := "1fe21bb339cf16d4d0250f8ae8013e813cd4859588b74a64d1dbb5134cf05752", func := "scholia/scholialaw13.PastSince", spec := "pastSince", unfollowed := true, recurses := true, apart := false }
def PastSinceSaid : Prop := pastSinceRow.holds Try.pinned (OpenSpec.ofChange pastSinceSpec)

/-- ITS FALSE NEIGHBOUR: 'it returns false'. Refute it at one input. -/
def pastSinceWrong : ChangeSpec := { name := "pastSince", fn := fun _ => fun
  | [d1, d2, d3, d4] => { results := [.lit (.bool false)], args := [d1, d2, d3, d4] }
  | _ => none }
def PastSinceWrongFalsely : Prop := pastSinceRow.holds Try.pinned (OpenSpec.ofChange pastSinceWrong)

/-- 'scholialaw13.PastEvents': WHATEVER THE INPUT: true; the input reads as it did. -/
def pastEventsSpec : ChangeSpec := { name := "pastEvents", fn := fun _ => fun
  | [d1, d2] => { results := [.lit (.bool true)], args := [d1, d2] }
  | _ => none }
def pastEventsRow : OpenClaim := { program := "ytomchclmnmhjaaa", sum := "1fe21bb339cf16d4d0250f8ae8013e813cd4859588b74a64d1dbb5134cf05752", func := "scholia/scholialaw13.PastEvents", spec := "pastEvents", unfollowed := true, recurses := true, apart := false }
def PastEventsSaid : Prop := pastEventsRow.holds Try.pinned (OpenSpec.ofChange pastEventsSpec)

/-- ITS FALSE NEIGHBOUR: 'it returns false'. Refute it at one input. -/
def pastEventsWrong : ChangeSpec := { name := "pastEvents", fn := fun _ => fun
  | [d1, d2] => { results := [.lit (.bool false)], args := [d1, d2] }
  | _ => none }
def PastEventsWrongFalsely : Prop := pastEventsRow.holds Try.pinned (OpenSpec.ofChange pastEventsWrong)

/-- 'scholialaw13.PastLists': WHATEVER THE INPUT: true; the input reads as it did. -/
def pastListsSpec : ChangeSpec := { name := "pastLists", fn := fun _ => fun
  | [d1, d2, d3, d4] => { results := [.lit (.bool true)], args := [d1, d2, d3, d4] }
  | _ => none }
def pastListsRow : OpenClaim := { program := "ytomchclmnmhjaaa", sum := "1fe21bb339cf16d4d0250f8ae8013e813cd4859588b74a64d1dbb5134cf05752", func := "scholia/scholialaw13.PastLists", spec := "pastLists", apart := false }
def PastListsSaid : Prop := pastListsRow.holds Try.pinned (OpenSpec.ofChange pastListsSpec)

/-- ITS FALSE NEIGHBOUR: 'it returns false'. Refute it at one input. -/
def pastListsWrong : ChangeSpec := { name := "pastLists", fn := fun _ => fun
  | [d1, d2, d3, d4] => { results := [.lit (.bool false)], args := [d1, d2, d3, d4] }
  | _ => none }
def PastListsWrongFalsely : Prop := pastListsRow.holds Try.pinned (OpenSpec.ofChange pastListsWrong)

/- THE SECOND FORM. 'bulk': how many values and letters a reading holds, each counted each time it is reached (what is shared counts as often as it is met; a slice's spare places count too). A statement '..UptoSaid' is the law's where the arguments, and the package variables that the reading takes, are together of bulk at most 1048576: NARROWER than '..Said'. Prove '..Said' where nothing that the law and all that it calls make is longer than what came in: it says more and counts as full. Else prove '..UptoSaid'. A law counts once. -/
mutual
def uptoBulk {H : Type} : DataW H → Nat
  | .lit (.string bytes) => bytes.length + 1
  | .lit _ => 1
  | .nil => 1
  | .ptr d => uptoBulk d + 1
  | .slice elems spare => uptoBulkAll elems + uptoBulkAll spare + 1
  | .agg parts => uptoBulkAll parts + 1
  | .iface _ d => uptoBulk d + 1
  | .map entries => uptoBulkEntries entries + 1
  | .held _ => 1
def uptoBulkAll {H : Type} : List (DataW H) → Nat
  | [] => 0
  | d :: r => uptoBulk d + uptoBulkAll r
def uptoBulkEntries {H : Type} : List (Lit × DataW H) → Nat
  | [] => 0
  | x :: r => uptoBulkEntry x + uptoBulkEntries r
def uptoBulkEntry {H : Type} : Lit × DataW H → Nat
  | (.string bytes, d) => bytes.length + uptoBulk d + 1
  | (_, d) => uptoBulk d + 1
 end
def uptoSmall : (H : Type) → List (DataW H) → Bool := fun _ ds => decide (uptoBulkAll ds ≤ 1048576)
def OpenSpec.upto (s : _root_.Go.ChangeSpec) : _root_.Go.OpenSpec := { _root_.Go.OpenSpec.ofChange s with cond := some uptoSmall }

/-- 'scholialaw08.DotsDots', WHERE WHAT IT READS IS OF BULK AT MOST 1048576: true; the input reads as it did. -/
def dotsDotsUptoRow : OpenClaim := { program := "ytomchclmnmhjaaa", sum := "1fe21bb339cf16d4d0250f8ae8013e813cd4859588b74a64d1dbb5134cf05752", func := "scholia/scholialaw08.DotsDots", spec := "dotsDots", unfollowed := true, recurses := true, apart := false, narrowed := true }
def DotsDotsUptoSaid : Prop := dotsDotsUptoRow.holds Try.pinned (OpenSpec.upto dotsDotsSpec)

/-- 'scholialaw08.DotsLattice', WHERE WHAT IT READS IS OF BULK AT MOST 1048576: true; the input reads as it did. -/
def dotsLatticeUptoRow : OpenClaim := { program := "ytomchclmnmhjaaa", sum := "1fe21bb339cf16d4d0250f8ae8013e813cd4859588b74a64d1dbb5134cf05752", func := "scholia/scholialaw08.DotsLattice", spec := "dotsLattice", unfollowed := true, recurses := true, apart := false, narrowed := true }
def DotsLatticeUptoSaid : Prop := dotsLatticeUptoRow.holds Try.pinned (OpenSpec.upto dotsLatticeSpec)

/-- 'scholialaw08.DotsVectors', WHERE WHAT IT READS IS OF BULK AT MOST 1048576: true; the input reads as it did. -/
def dotsVectorsUptoRow : OpenClaim := { program := "ytomchclmnmhjaaa", sum := "1fe21bb339cf16d4d0250f8ae8013e813cd4859588b74a64d1dbb5134cf05752", func := "scholia/scholialaw08.DotsVectors", spec := "dotsVectors", unfollowed := true, recurses := true, apart := false, narrowed := true }
def DotsVectorsUptoSaid : Prop := dotsVectorsUptoRow.holds Try.pinned (OpenSpec.upto dotsVectorsSpec)

/-- 'scholialaw08.DotsTidy', WHERE WHAT IT READS IS OF BULK AT MOST 1048576: true; the input reads as it did. -/
def dotsTidyUptoRow : OpenClaim := { program := "ytomchclmnmhjaaa", sum := "1fe21bb339cf16d4d0250f8ae8013e813cd4859588b74a64d1dbb5134cf05752", func := "scholia/scholialaw08.DotsTidy", spec := "dotsTidy", unfollowed := true, recurses := true, apart := false, narrowed := true }
def DotsTidyUptoSaid : Prop := dotsTidyUptoRow.holds Try.pinned (OpenSpec.upto dotsTidySpec)

/-- 'scholialaw08.DotsUnion', WHERE WHAT IT READS IS OF BULK AT MOST 1048576: true; the input reads as it did. -/
def dotsUnionUptoRow : OpenClaim := { program := "ytomchclmnmhjaaa", sum := "1fe21bb339cf16d4d0250f8ae8013e813cd4859588b74a64d1dbb5134cf05752", func := "scholia/scholialaw08.DotsUnion", spec := "dotsUnion", unfollowed := true, recurses := true, apart := false, narrowed := true }
def DotsUnionUptoSaid : Prop := dotsUnionUptoRow.holds Try.pinned (OpenSpec.upto dotsUnionSpec)

/-- 'scholialaw08.DotsKnown', WHERE WHAT IT READS IS OF BULK AT MOST 1048576: true; the input reads as it did. -/
def dotsKnownUptoRow : OpenClaim := { program := "ytomchclmnmhjaaa", sum := "1fe21bb339cf16d4d0250f8ae8013e813cd4859588b74a64d1dbb5134cf05752", func := "scholia/scholialaw08.DotsKnown", spec := "dotsKnown", unfollowed := true, recurses := true, apart := false, narrowed := true }
def DotsKnownUptoSaid : Prop := dotsKnownUptoRow.holds Try.pinned (OpenSpec.upto dotsKnownSpec)

/-- 'scholialaw08.DotsBack', WHERE WHAT IT READS IS OF BULK AT MOST 1048576: true; the input reads as it did. -/
def dotsBackUptoRow : OpenClaim := { program := "ytomchclmnmhjaaa", sum := "1fe21bb339cf16d4d0250f8ae8013e813cd4859588b74a64d1dbb5134cf05752", func := "scholia/scholialaw08.DotsBack", spec := "dotsBack", unfollowed := true, recurses := true, apart := false, narrowed := true }
def DotsBackUptoSaid : Prop := dotsBackUptoRow.holds Try.pinned (OpenSpec.upto dotsBackSpec)

/-- 'scholialaw08.DotsBytes', WHERE WHAT IT READS IS OF BULK AT MOST 1048576: true; the input reads as it did. -/
def dotsBytesUptoRow : OpenClaim := { program := "ytomchclmnmhjaaa", sum := "1fe21bb339cf16d4d0250f8ae8013e813cd4859588b74a64d1dbb5134cf05752", func := "scholia/scholialaw08.DotsBytes", spec := "dotsBytes", unfollowed := true, recurses := true, apart := false, narrowed := true }
def DotsBytesUptoSaid : Prop := dotsBytesUptoRow.holds Try.pinned (OpenSpec.upto dotsBytesSpec)

/-- 'scholialaw13.PastKept', WHERE WHAT IT READS IS OF BULK AT MOST 1048576: true; the input reads as it did. -/
def pastKeptUptoRow : OpenClaim := { program := "ytomchclmnmhjaaa", sum := "1fe21bb339cf16d4d0250f8ae8013e813cd4859588b74a64d1dbb5134cf05752", func := "scholia/scholialaw13.PastKept", spec := "pastKept", apart := false, narrowed := true }
def PastKeptUptoSaid : Prop := pastKeptUptoRow.holds Try.pinned (OpenSpec.upto pastKeptSpec)

/-- 'scholialaw13.PastChanges', WHERE WHAT IT READS IS OF BULK AT MOST 1048576: true; the input reads as it did. -/
def pastChangesUptoRow : OpenClaim := { program := "ytomchclmnmhjaaa", sum := "1fe21bb339cf16d4d0250f8ae8013e813cd4859588b74a64d1dbb5134cf05752", func := "scholia/scholialaw13.PastChanges", spec := "pastChanges", unfollowed := true, recurses := true, apart := false, narrowed := true }
def PastChangesUptoSaid : Prop := pastChangesUptoRow.holds Try.pinned (OpenSpec.upto pastChangesSpec)

/-- 'scholialaw13.PastAll', WHERE WHAT IT READS IS OF BULK AT MOST 1048576: true; the input reads as it did. -/
def pastAllUptoRow : OpenClaim := { program := "ytomchclmnmhjaaa", sum := "1fe21bb339cf16d4d0250f8ae8013e813cd4859588b74a64d1dbb5134cf05752", func := "scholia/scholialaw13.PastAll", spec := "pastAll", unfollowed := true, recurses := true, apart := false, narrowed := true }
def PastAllUptoSaid : Prop := pastAllUptoRow.holds Try.pinned (OpenSpec.upto pastAllSpec)

/-- 'scholialaw13.PastSince', WHERE WHAT IT READS IS OF BULK AT MOST 1048576: true; the input reads as it did. -/
def pastSinceUptoRow : OpenClaim := { program := "ytomchclmnmhjaaa", sum := "1fe21bb339cf16d4d0250f8ae8013e813cd4859588b74a64d1dbb5134cf05752", func := "scholia/scholialaw13.PastSince", spec := "pastSince", unfollowed := true, recurses := true, apart := false, narrowed := true }
def PastSinceUptoSaid : Prop := pastSinceUptoRow.holds Try.pinned (OpenSpec.upto pastSinceSpec)

/-- 'scholialaw13.PastEvents', WHERE WHAT IT READS IS OF BULK AT MOST 1048576: true; the input reads as it did. -/
def pastEventsUptoRow : OpenClaim := { program := "ytomchclmnmhjaaa", sum := "1fe21bb339cf16d4d0250f8ae8013e813cd4859588b74a64d1dbb5134cf05752", func := "scholia/scholialaw13.PastEvents", spec := "pastEvents", unfollowed := true, recurses := true, apart := false, narrowed := true }
def PastEventsUptoSaid : Prop := pastEventsUptoRow.holds Try.pinned (OpenSpec.upto pastEventsSpec)

/-- 'scholialaw13.PastLists', WHERE WHAT IT READS IS OF BULK AT MOST 1048576: true; the input reads as it did. -/
def pastListsUptoRow : OpenClaim := { program := "ytomchclmnmhjaaa", sum := "1fe21bb339cf16d4d0250f8ae8013e813cd4859588b74a64d1dbb5134cf05752", func := "scholia/scholialaw13.PastLists", spec := "pastLists", apart := false, narrowed := true }
def PastListsUptoSaid : Prop := pastListsUptoRow.holds Try.pinned (OpenSpec.upto pastListsSpec)

end Rows
end Go.Proofs.Ytomchclmnmhjaaa
