/-
  No cell of these rows narrows 'for every input' (looked for: loops, veiled, ifaces, maps, wideKeys, modest, calm, conditions, laid).
  DERIVED. THE GIVEN ROWS OF THIS SEAT. 6 by the template 'for every input the law returns true; each argument reads behind the call as it read before'; 0 by the template 'total and deterministic' (their statements: YtlbmknejhmmjnaaTotals.lean).
  GIVEN WITH THE SEED: the statements are not yours to turn. If you find one false, say at which input.
  Laid BY PROGRAM, IN A SANDBOX (cutbox-rows.mjs): the forced cells as the released guide's own fill.sh prints them over the translation 9e30490e70244f5f… (all of the seat's roots in one cut). By AI agents, Wed Nov 11 2026. No macro, syntax, notation, axiom, sorry.
-/
import Derived.Test.YtlbmknejhmmjnaaChecked
import GoSem.Claim
import GoSem.ClaimJoined
import GoSem.ClaimMapViews
import Derived.JoinedTies
import Derived.KernelRfl
namespace Go.Proofs.Ytlbmknejhmmjnaa
/- THE CELL 'sum', in the pinned program and in every row, IS THE sha256 OF THE DUMP (.gsa) THAT YtlbmknejhmmjnaaProg.lean LOADS. Nothing in Lean hashes anything: it is a label: what it is worth is what the hold of that sum in a sandbox is worth. -/
noncomputable def Try.pinned : Pinned := { name := "ytlbmknejhmmjnaa", sum := "9e30490e70244f5f6d9a641ba3204359715e8c90e6533d7f31135cf05d67e05e", checked := Try.checked }
namespace Rows
def none {H : Type} : Left H := { results := [], args := [] }

/-- 'scholialaw06.SortedMerges': WHATEVER THE INPUT: true; the input reads as it did. -/
def sortedMergesSpec : ChangeSpec := { name := "sortedMerges", fn := fun _ => fun
  | [d] => { results := [.lit (.bool true)], args := [d] }
  | _ => none }
def sortedMergesRow : OpenClaim := { program := "ytlbmknejhmmjnaa", sum := "9e30490e70244f5f6d9a641ba3204359715e8c90e6533d7f31135cf05d67e05e", func := "scholia/scholialaw06.SortedMerges", spec := "sortedMerges", unfollowed := true, recurses := true, apart := false }
def SortedMergesSaid : Prop := sortedMergesRow.holds Try.pinned (OpenSpec.ofChange sortedMergesSpec)

/-- ITS FALSE NEIGHBOUR: 'it returns false'. Refute it at one input. -/
def sortedMergesWrong : ChangeSpec := { name := "sortedMerges", fn := fun _ => fun
  | [d] => { results := [.lit (.bool false)], args := [d] }
  | _ => none }
def SortedMergesWrongFalsely : Prop := sortedMergesRow.holds Try.pinned (OpenSpec.ofChange sortedMergesWrong)

/-- 'scholialaw06.SortedBest': WHATEVER THE INPUT: true; the input reads as it did. -/
def sortedBestSpec : ChangeSpec := { name := "sortedBest", fn := fun _ => fun
  | [d1, d2] => { results := [.lit (.bool true)], args := [d1, d2] }
  | _ => none }
def sortedBestRow : OpenClaim := { program := "ytlbmknejhmmjnaa", sum := "9e30490e70244f5f6d9a641ba3204359715e8c90e6533d7f31135cf05d67e05e", func := "scholia/scholialaw06.SortedBest", spec := "sortedBest", unfollowed := true, recurses := true, apart := false }
def SortedBestSaid : Prop := sortedBestRow.holds Try.pinned (OpenSpec.ofChange sortedBestSpec)

/-- ITS FALSE NEIGHBOUR: 'it returns false'. Refute it at one input. -/
def sortedBestWrong : ChangeSpec := { name := "sortedBest", fn := fun _ => fun
  | [d1, d2] => { results := [.lit (.bool false)], args := [d1, d2] }
  | _ => none }
def SortedBestWrongFalsely : Prop := sortedBestRow.holds Try.pinned (OpenSpec.ofChange sortedBestWrong)

/-- 'scholialaw06.SortedNumbers': WHATEVER THE INPUT: true; the input reads as it did. -/
def sortedNumbersSpec : ChangeSpec := { name := "sortedNumbers", fn := fun _ => fun
  | [d] => { results := [.lit (.bool true)], args := [d] }
  | _ => none }
def sortedNumbersRow : OpenClaim := { program := "ytlbmknejhmmjnaa", sum := "9e30490e70244f5f6d9a641ba3204359715e8c90e6533d7f31135cf05d67e05e", func := "scholia/scholialaw06.SortedNumbers", spec := "sortedNumbers", inPlace := ["slices.overlaps[scholia/sorted.pair[int, int]]"], unfollowed := true, recurses := true, apart := false }
def SortedNumbersSaid : Prop := sortedNumbersRow.holds Try.pinned (OpenSpec.ofChange sortedNumbersSpec)

/-- ITS FALSE NEIGHBOUR: 'it returns false'. Refute it at one input. -/
def sortedNumbersWrong : ChangeSpec := { name := "sortedNumbers", fn := fun _ => fun
  | [d] => { results := [.lit (.bool false)], args := [d] }
  | _ => none }
def SortedNumbersWrongFalsely : Prop := sortedNumbersRow.holds Try.pinned (OpenSpec.ofChange sortedNumbersWrong)

/-- 'scholialaw06.SortedTables': WHATEVER THE INPUT: true; the input reads as it did. -/
def sortedTablesSpec : ChangeSpec := { name := "sortedTables", fn := fun _ => fun
  | [d1, d2] => { results := [.lit (.bool true)], args := [d1, d2] }
  | _ => none }
def sortedTablesRow : OpenClaim := { program := "ytlbmknejhmmjnaa", sum := "9e30490e70244f5f6d9a641ba3204359715e8c90e6533d7f31135cf05d67e05e", func := "scholia/scholialaw06.SortedTables", spec := "sortedTables", inPlace := ["slices.overlaps[scholia/sorted.pair[string, int]]"], unfollowed := true, recurses := true, apart := false }
def SortedTablesSaid : Prop := sortedTablesRow.holds Try.pinned (OpenSpec.ofChange sortedTablesSpec)

/-- ITS FALSE NEIGHBOUR: 'it returns false'. Refute it at one input. -/
def sortedTablesWrong : ChangeSpec := { name := "sortedTables", fn := fun _ => fun
  | [d1, d2] => { results := [.lit (.bool false)], args := [d1, d2] }
  | _ => none }
def SortedTablesWrongFalsely : Prop := sortedTablesRow.holds Try.pinned (OpenSpec.ofChange sortedTablesWrong)

/-- 'scholialaw06.SortedNobody': WHATEVER THE INPUT: true; the input reads as it did. -/
def sortedNobodySpec : ChangeSpec := { name := "sortedNobody", fn := fun _ => fun
  | [d1, d2] => { results := [.lit (.bool true)], args := [d1, d2] }
  | _ => none }
def sortedNobodyRow : OpenClaim := { program := "ytlbmknejhmmjnaa", sum := "9e30490e70244f5f6d9a641ba3204359715e8c90e6533d7f31135cf05d67e05e", func := "scholia/scholialaw06.SortedNobody", spec := "sortedNobody", inPlace := ["slices.overlaps[scholia/sorted.pair[int, int]]"], unfollowed := true, recurses := true, apart := false }
def SortedNobodySaid : Prop := sortedNobodyRow.holds Try.pinned (OpenSpec.ofChange sortedNobodySpec)

/-- ITS FALSE NEIGHBOUR: 'it returns false'. Refute it at one input. -/
def sortedNobodyWrong : ChangeSpec := { name := "sortedNobody", fn := fun _ => fun
  | [d1, d2] => { results := [.lit (.bool false)], args := [d1, d2] }
  | _ => none }
def SortedNobodyWrongFalsely : Prop := sortedNobodyRow.holds Try.pinned (OpenSpec.ofChange sortedNobodyWrong)

/-- 'scholialaw06.SortedHeaps': WHATEVER THE INPUT: true; the input reads as it did. -/
def sortedHeapsSpec : ChangeSpec := { name := "sortedHeaps", fn := fun _ => fun
  | [d1, d2] => { results := [.lit (.bool true)], args := [d1, d2] }
  | _ => none }
def sortedHeapsRow : OpenClaim := { program := "ytlbmknejhmmjnaa", sum := "9e30490e70244f5f6d9a641ba3204359715e8c90e6533d7f31135cf05d67e05e", func := "scholia/scholialaw06.SortedHeaps", spec := "sortedHeaps", unfollowed := true, recurses := true, apart := false }
def SortedHeapsSaid : Prop := sortedHeapsRow.holds Try.pinned (OpenSpec.ofChange sortedHeapsSpec)

/-- ITS FALSE NEIGHBOUR: 'it returns false'. Refute it at one input. -/
def sortedHeapsWrong : ChangeSpec := { name := "sortedHeaps", fn := fun _ => fun
  | [d1, d2] => { results := [.lit (.bool false)], args := [d1, d2] }
  | _ => none }
def SortedHeapsWrongFalsely : Prop := sortedHeapsRow.holds Try.pinned (OpenSpec.ofChange sortedHeapsWrong)

/- THE SECOND FORM. 'bulk': how many values and letters a reading holds, each counted each time it is reached (what is shared counts as often as it is met; a slice's spare places count too). A statement '..UptoSaid' is the law's where the arguments, and the package variables that the reading takes, are together of bulk at most 1048576: NARROWER than '..Said'. Prove '..Said' where nothing that the law and all that it calls make is longer than what came in: it says more and counts as full. Else prove '..UptoSaid'. A law counts once. -/
mutual
def uptoBulk {H : Type} : DataW H → Nat
  | .lit (.string bytes) => bytes.length + 1
  | .lit _ => 1
  | .nil => 1
  | .ptr d => uptoBulk d + 1
  | .slice elems spare => uptoBulkAll elems + uptoBulkAll spare + 1
  | .agg parts => uptoBulkAll parts + 1
  | .iface _ d => uptoBulk d + 1
  | .map entries => uptoBulkEntries entries + 1
  | .held _ => 1
def uptoBulkAll {H : Type} : List (DataW H) → Nat
  | [] => 0
  | d :: r => uptoBulk d + uptoBulkAll r
def uptoBulkEntries {H : Type} : List (Lit × DataW H) → Nat
  | [] => 0
  | x :: r => uptoBulkEntry x + uptoBulkEntries r
def uptoBulkEntry {H : Type} : Lit × DataW H → Nat
  | (.string bytes, d) => bytes.length + uptoBulk d + 1
  | (_, d) => uptoBulk d + 1
 end
def uptoSmall : (H : Type) → List (DataW H) → Bool := fun _ ds => decide (uptoBulkAll ds ≤ 1048576)
def OpenSpec.upto (s : _root_.Go.ChangeSpec) : _root_.Go.OpenSpec := { _root_.Go.OpenSpec.ofChange s with cond := some uptoSmall }

/-- 'scholialaw06.SortedMerges', WHERE WHAT IT READS IS OF BULK AT MOST 1048576: true; the input reads as it did. -/
def sortedMergesUptoRow : OpenClaim := { program := "ytlbmknejhmmjnaa", sum := "9e30490e70244f5f6d9a641ba3204359715e8c90e6533d7f31135cf05d67e05e", func := "scholia/scholialaw06.SortedMerges", spec := "sortedMerges", unfollowed := true, recurses := true, apart := false, narrowed := true }
def SortedMergesUptoSaid : Prop := sortedMergesUptoRow.holds Try.pinned (OpenSpec.upto sortedMergesSpec)

/-- 'scholialaw06.SortedBest', WHERE WHAT IT READS IS OF BULK AT MOST 1048576: true; the input reads as it did. -/
def sortedBestUptoRow : OpenClaim := { program := "ytlbmknejhmmjnaa", sum := "9e30490e70244f5f6d9a641ba3204359715e8c90e6533d7f31135cf05d67e05e", func := "scholia/scholialaw06.SortedBest", spec := "sortedBest", unfollowed := true, recurses := true, apart := false, narrowed := true }
def SortedBestUptoSaid : Prop := sortedBestUptoRow.holds Try.pinned (OpenSpec.upto sortedBestSpec)

/-- 'scholialaw06.SortedNumbers', WHERE WHAT IT READS IS OF BULK AT MOST 1048576: true; the input reads as it did. -/
def sortedNumbersUptoRow : OpenClaim := { program := "ytlbmknejhmmjnaa", sum := "9e30490e70244f5f6d9a641ba3204359715e8c90e6533d7f31135cf05d67e05e", func := "scholia/scholialaw06.SortedNumbers", spec := "sortedNumbers", inPlace := ["slices.overlaps[scholia/sorted.pair[int, int]]"], unfollowed := true, recurses := true, apart := false, narrowed := true }
def SortedNumbersUptoSaid : Prop := sortedNumbersUptoRow.holds Try.pinned (OpenSpec.upto sortedNumbersSpec)

/-- 'scholialaw06.SortedTables', WHERE WHAT IT READS IS OF BULK AT MOST 1048576: true; the input reads as it did. -/
def sortedTablesUptoRow : OpenClaim := { program := "ytlbmknejhmmjnaa", sum := "9e30490e70244f5f6d9a641ba3204359715e8c90e6533d7f31135cf05d67e05e", func := "scholia/scholialaw06.SortedTables", spec := "sortedTables", inPlace := ["slices.overlaps[scholia/sorted.pair[string, int]]"], unfollowed := true, recurses := true, apart := false, narrowed := true }
def SortedTablesUptoSaid : Prop := sortedTablesUptoRow.holds Try.pinned (OpenSpec.upto sortedTablesSpec)

/-- 'scholialaw06.SortedNobody', WHERE WHAT IT READS IS OF BULK AT MOST 1048576: true; the input reads as it did. -/
def sortedNobodyUptoRow : OpenClaim := { program := "ytlbmknejhmmjnaa", sum := "9e30490e70244f5f6d9a641ba3204359715e8c90e6533d7f31135cf05d67e05e", func := "scholia/scholialaw06.SortedNobody", spec := "sortedNobody", inPlace := ["slices.overlaps[scholia/sorted.pair[int, int]]"], unfollowed := true, recurses := true, apart := false, narrowed := true }
def SortedNobodyUptoSaid : Prop := sortedNobodyUptoRow.holds Try.pinned (OpenSpec.upto sortedNobodySpec)

/-- 'scholialaw06.SortedHeaps', WHERE WHAT IT READS IS OF BULK AT MOST 1048576: true; the input reads as it did. -/
def sortedHeapsUptoRow : OpenClaim := { program := "ytlbmknejhmmjnaa", sum := "9e30490e70244f5f6d9a641ba3204359715e8c90e6533d7f31135cf05d67e05e", func := "scholia/scholialaw06.SortedHeaps", spec := "sortedHeaps", unfollowed := true, recurses := true, apart := false, narrowed := true }
def SortedHeapsUptoSaid : Prop := sortedHeapsUptoRow.holds Try.pinned (OpenSpec.upto sortedHeapsSpec)

end Rows
end Go.Proofs.Ytlbmknejhmmjnaa
