/-
  No cell of these rows narrows 'for every input' (looked for: loops, veiled, ifaces, maps, wideKeys, modest, calm, conditions, laid).
  DERIVED. THE GIVEN ROWS OF THIS SEAT. 4 by the template 'for every input the law returns true; each argument reads behind the call as it read before'; 0 by the template 'total and deterministic' (their statements: YtinobfilomhhhaaTotals.lean).
  GIVEN WITH THE SEED: the statements are not yours to turn. If you find one false, say at which input.
  Laid BY PROGRAM, IN A SANDBOX (cutbox-rows.mjs): the forced cells as the released guide's own fill.sh prints them over the translation cb7b96239c676ae6… (all of the seat's roots in one cut). By AI agents, Wed Nov 11 2026. No macro, syntax, notation, axiom, sorry.
-/
import Derived.Test.YtinobfilomhhhaaChecked
import GoSem.Claim
import GoSem.ClaimJoined
import GoSem.ClaimMapViews
import Derived.JoinedTies
import Derived.KernelRfl
namespace Go.Proofs.Ytinobfilomhhhaa
/- THE CELL 'sum', in the pinned program and in every row, IS THE sha256 OF THE DUMP (.gsa) THAT YtinobfilomhhhaaProg.lean LOADS. Nothing in Lean hashes anything: it is a label: what it is worth is what the hold of that sum in a sandbox is worth. -/
noncomputable def Try.pinned : Pinned := { name := "ytinobfilomhhhaa", sum := "cb7b96239c676ae65d587f1f59427ae0071d4f2a2003ab1edf88b484bb51ea98", checked := Try.checked }
namespace Rows
def none {H : Type} : Left H := { results := [], args := [] }

/-- 'scholialaw32.SuggestWay': WHATEVER THE INPUT: true; the input reads as it did. -/
def suggestWaySpec : ChangeSpec := { name := "suggestWay", fn := fun _ => fun
  | [d1, d2] => { results := [.lit (.bool true)], args := [d1, d2] }
  | _ => none }
def suggestWayRow : OpenClaim := { program := "ytinobfilomhhhaa", sum := "cb7b96239c676ae65d587f1f59427ae0071d4f2a2003ab1edf88b484bb51ea98", func := "scholia/scholialaw32.SuggestWay", spec := "suggestWay", apart := false }
def SuggestWaySaid : Prop := suggestWayRow.holds Try.pinned (OpenSpec.ofChange suggestWaySpec)

/-- ITS FALSE NEIGHBOUR: 'it returns false'. Refute it at one input. -/
def suggestWayWrong : ChangeSpec := { name := "suggestWay", fn := fun _ => fun
  | [d1, d2] => { results := [.lit (.bool false)], args := [d1, d2] }
  | _ => none }
def SuggestWayWrongFalsely : Prop := suggestWayRow.holds Try.pinned (OpenSpec.ofChange suggestWayWrong)

/-- 'scholialaw32.SuggestNobody': WHATEVER THE INPUT: true; the input reads as it did. -/
def suggestNobodySpec : ChangeSpec := { name := "suggestNobody", fn := fun _ => fun
  | [d1, d2, d3] => { results := [.lit (.bool true)], args := [d1, d2, d3] }
  | _ => none }
def suggestNobodyRow : OpenClaim := { program := "ytinobfilomhhhaa", sum := "cb7b96239c676ae65d587f1f59427ae0071d4f2a2003ab1edf88b484bb51ea98", func := "scholia/scholialaw32.SuggestNobody", spec := "suggestNobody", inPlace := ["internal/bytealg.abigen_runtime_cmpstring"], unfollowed := true, recurses := true, apart := false }
def SuggestNobodySaid : Prop := suggestNobodyRow.holds Try.pinned (OpenSpec.ofChange suggestNobodySpec)

/-- ITS FALSE NEIGHBOUR: 'it returns false'. Refute it at one input. -/
def suggestNobodyWrong : ChangeSpec := { name := "suggestNobody", fn := fun _ => fun
  | [d1, d2, d3] => { results := [.lit (.bool false)], args := [d1, d2, d3] }
  | _ => none }
def SuggestNobodyWrongFalsely : Prop := suggestNobodyRow.holds Try.pinned (OpenSpec.ofChange suggestNobodyWrong)

/-- 'scholialaw32.SuggestWords': WHATEVER THE INPUT: true; the input reads as it did. -/
def suggestWordsSpec : ChangeSpec := { name := "suggestWords", fn := fun _ => fun
  | [d1, d2, d3, d4] => { results := [.lit (.bool true)], args := [d1, d2, d3, d4] }
  | _ => none }
def suggestWordsRow : OpenClaim := { program := "ytinobfilomhhhaa", sum := "cb7b96239c676ae65d587f1f59427ae0071d4f2a2003ab1edf88b484bb51ea98", func := "scholia/scholialaw32.SuggestWords", spec := "suggestWords", inPlace := ["internal/bytealg.abigen_runtime_cmpstring"], unfollowed := true, recurses := true, apart := false }
def SuggestWordsSaid : Prop := suggestWordsRow.holds Try.pinned (OpenSpec.ofChange suggestWordsSpec)

/-- ITS FALSE NEIGHBOUR: 'it returns false'. Refute it at one input. -/
def suggestWordsWrong : ChangeSpec := { name := "suggestWords", fn := fun _ => fun
  | [d1, d2, d3, d4] => { results := [.lit (.bool false)], args := [d1, d2, d3, d4] }
  | _ => none }
def SuggestWordsWrongFalsely : Prop := suggestWordsRow.holds Try.pinned (OpenSpec.ofChange suggestWordsWrong)

/-- 'scholialaw32.SuggestAll': WHATEVER THE INPUT: true; the input reads as it did. -/
def suggestAllSpec : ChangeSpec := { name := "suggestAll", fn := fun _ => fun
  | [d] => { results := [.lit (.bool true)], args := [d] }
  | _ => none }
def suggestAllRow : OpenClaim := { program := "ytinobfilomhhhaa", sum := "cb7b96239c676ae65d587f1f59427ae0071d4f2a2003ab1edf88b484bb51ea98", func := "scholia/scholialaw32.SuggestAll", spec := "suggestAll", recurses := true, apart := false }
def SuggestAllSaid : Prop := suggestAllRow.holds Try.pinned (OpenSpec.ofChange suggestAllSpec)

/-- ITS FALSE NEIGHBOUR: 'it returns false'. Refute it at one input. -/
def suggestAllWrong : ChangeSpec := { name := "suggestAll", fn := fun _ => fun
  | [d] => { results := [.lit (.bool false)], args := [d] }
  | _ => none }
def SuggestAllWrongFalsely : Prop := suggestAllRow.holds Try.pinned (OpenSpec.ofChange suggestAllWrong)

/- THE SECOND FORM. 'bulk': how many values and letters a reading holds, each counted each time it is reached (what is shared counts as often as it is met; a slice's spare places count too). A statement '..UptoSaid' is the law's where the arguments, and the package variables that the reading takes, are together of bulk at most 1048576: NARROWER than '..Said'. Prove '..Said' where nothing that the law and all that it calls make is longer than what came in: it says more and counts as full. Else prove '..UptoSaid'. A law counts once. -/
mutual
def uptoBulk {H : Type} : DataW H → Nat
  | .lit (.string bytes) => bytes.length + 1
  | .lit _ => 1
  | .nil => 1
  | .ptr d => uptoBulk d + 1
  | .slice elems spare => uptoBulkAll elems + uptoBulkAll spare + 1
  | .agg parts => uptoBulkAll parts + 1
  | .iface _ d => uptoBulk d + 1
  | .map entries => uptoBulkEntries entries + 1
  | .held _ => 1
def uptoBulkAll {H : Type} : List (DataW H) → Nat
  | [] => 0
  | d :: r => uptoBulk d + uptoBulkAll r
def uptoBulkEntries {H : Type} : List (Lit × DataW H) → Nat
  | [] => 0
  | x :: r => uptoBulkEntry x + uptoBulkEntries r
def uptoBulkEntry {H : Type} : Lit × DataW H → Nat
  | (.string bytes, d) => bytes.length + uptoBulk d + 1
  | (_, d) => uptoBulk d + 1
 end
def uptoSmall : (H : Type) → List (DataW H) → Bool := fun _ ds => decide (uptoBulkAll ds ≤ 1048576)
def OpenSpec.upto (s : _root_.Go.ChangeSpec) : _root_.Go.OpenSpec := { _root_.Go.OpenSpec.ofChange s with cond := some uptoSmall }

/-- 'scholialaw32.SuggestWay', WHERE WHAT IT READS IS OF BULK AT MOST 1048576: true; the input reads as it did. -/
def suggestWayUptoRow : OpenClaim := { program := "ytinobfilomhhhaa", sum := "cb7b96239c676ae65d587f1f59427ae0071d4f2a2003ab1edf88b484bb51ea98", func := "scholia/scholialaw32.SuggestWay", spec := "suggestWay", apart := false, narrowed := true }
def SuggestWayUptoSaid : Prop := suggestWayUptoRow.holds Try.pinned (OpenSpec.upto suggestWaySpec)

/-- 'scholialaw32.SuggestNobody', WHERE WHAT IT READS IS OF BULK AT MOST 1048576: true; the input reads as it did. -/
def suggestNobodyUptoRow : OpenClaim := { program := "ytinobfilomhhhaa", sum := "cb7b96239c676ae65d587f1f59427ae0071d4f2a2003ab1edf88b484bb51ea98", func := "scholia/scholialaw32.SuggestNobody", spec := "suggestNobody", inPlace := ["internal/bytealg.abigen_runtime_cmpstring"], unfollowed := true, recurses := true, apart := false, narrowed := true }
def SuggestNobodyUptoSaid : Prop := suggestNobodyUptoRow.holds Try.pinned (OpenSpec.upto suggestNobodySpec)

/-- 'scholialaw32.SuggestWords', WHERE WHAT IT READS IS OF BULK AT MOST 1048576: true; the input reads as it did. -/
def suggestWordsUptoRow : OpenClaim := { program := "ytinobfilomhhhaa", sum := "cb7b96239c676ae65d587f1f59427ae0071d4f2a2003ab1edf88b484bb51ea98", func := "scholia/scholialaw32.SuggestWords", spec := "suggestWords", inPlace := ["internal/bytealg.abigen_runtime_cmpstring"], unfollowed := true, recurses := true, apart := false, narrowed := true }
def SuggestWordsUptoSaid : Prop := suggestWordsUptoRow.holds Try.pinned (OpenSpec.upto suggestWordsSpec)

/-- 'scholialaw32.SuggestAll', WHERE WHAT IT READS IS OF BULK AT MOST 1048576: true; the input reads as it did. -/
def suggestAllUptoRow : OpenClaim := { program := "ytinobfilomhhhaa", sum := "cb7b96239c676ae65d587f1f59427ae0071d4f2a2003ab1edf88b484bb51ea98", func := "scholia/scholialaw32.SuggestAll", spec := "suggestAll", recurses := true, apart := false, narrowed := true }
def SuggestAllUptoSaid : Prop := suggestAllUptoRow.holds Try.pinned (OpenSpec.upto suggestAllSpec)

end Rows
end Go.Proofs.Ytinobfilomhhhaa
