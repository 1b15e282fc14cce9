/-
  No cell of these rows narrows 'for every input' (looked for: loops, veiled, ifaces, maps, wideKeys, modest, calm, conditions, laid).
  DERIVED. THE GIVEN ROWS OF THIS SEAT. 9 by the template 'for every input the law returns true; each argument reads behind the call as it read before'; 0 by the template 'total and deterministic' (their statements: YtmonobkginiajaaGreatTotals.lean).
  GIVEN WITH THE SEED: the statements are not yours to turn. If you find one false, say at which input.
  Laid BY PROGRAM, IN A SANDBOX (cutbox-rows.mjs): the forced cells as the released guide's own fill.sh prints them over the translation e1205c22000a597d… (all of the seat's roots in one cut). By AI agents, Wed Nov 11 2026. No macro, syntax, notation, axiom, sorry.
-/
import Derived.Test.YtmonobkginiajaaGreatChecked
import GoSem.Claim
import GoSem.ClaimJoined
import GoSem.ClaimMapViews
import Derived.JoinedTies
import Derived.KernelRfl
namespace Go.Proofs.YtmonobkginiajaaGreat
/- THE CELL 'sum', in the pinned program and in every row, IS THE sha256 OF THE DUMP (.gsa) THAT YtmonobkginiajaaGreatProg.lean LOADS. Nothing in Lean hashes anything: it is a label: what it is worth is what the hold of that sum in a sandbox is worth. -/
noncomputable def Tryz.pinned : Pinned := { name := "ytmonobkginiajaagreat", sum := "e1205c22000a597dac13784608f23efc0461e72920d8e386640f0db4b06d76ac", checked := Tryz.checked }
namespace Rows
def none {H : Type} : Left H := { results := [], args := [] }

/-- 'horologelaw19.TreeMaps': WHATEVER THE INPUT: true; the input reads as it did. -/
def treeMapsSpec : ChangeSpec := { name := "treeMaps", fn := fun _ => fun
  | [d1, d2, d3] => { results := [.lit (.bool true)], args := [d1, d2, d3] }
  | _ => none }
def treeMapsRow : OpenClaim := { program := "ytmonobkginiajaagreat", sum := "e1205c22000a597dac13784608f23efc0461e72920d8e386640f0db4b06d76ac", func := "horologe/horologelaw19.TreeMaps", spec := "treeMaps", inPlace := ["internal/bytealg.abigen_runtime_cmpstring", "slices.overlaps[horologe/node.Entry]"], unfollowed := true, recurses := true, apart := false }
def TreeMapsSaid : Prop := treeMapsRow.holds Tryz.pinned (OpenSpec.ofChange treeMapsSpec)

/-- ITS FALSE NEIGHBOUR: 'it returns false'. Refute it at one input. -/
def treeMapsWrong : ChangeSpec := { name := "treeMaps", fn := fun _ => fun
  | [d1, d2, d3] => { results := [.lit (.bool false)], args := [d1, d2, d3] }
  | _ => none }
def TreeMapsWrongFalsely : Prop := treeMapsRow.holds Tryz.pinned (OpenSpec.ofChange treeMapsWrong)

/-- 'horologelaw19.TreeParts': WHATEVER THE INPUT: true; the input reads as it did. -/
def treePartsSpec : ChangeSpec := { name := "treeParts", fn := fun _ => fun
  | [d1, d2] => { results := [.lit (.bool true)], args := [d1, d2] }
  | _ => none }
def treePartsRow : OpenClaim := { program := "ytmonobkginiajaagreat", sum := "e1205c22000a597dac13784608f23efc0461e72920d8e386640f0db4b06d76ac", func := "horologe/horologelaw19.TreeParts", spec := "treeParts", inPlace := ["internal/bytealg.abigen_runtime_cmpstring", "slices.overlaps[horologe/node.Entry]"], unfollowed := true, recurses := true, apart := false }
def TreePartsSaid : Prop := treePartsRow.holds Tryz.pinned (OpenSpec.ofChange treePartsSpec)

/-- ITS FALSE NEIGHBOUR: 'it returns false'. Refute it at one input. -/
def treePartsWrong : ChangeSpec := { name := "treeParts", fn := fun _ => fun
  | [d1, d2] => { results := [.lit (.bool false)], args := [d1, d2] }
  | _ => none }
def TreePartsWrongFalsely : Prop := treePartsRow.holds Tryz.pinned (OpenSpec.ofChange treePartsWrong)

/-- 'horologelaw19.TreeNone': WHATEVER THE INPUT: true; the input reads as it did. -/
def treeNoneSpec : ChangeSpec := { name := "treeNone", fn := fun _ => fun
  | [d] => { results := [.lit (.bool true)], args := [d] }
  | _ => none }
def treeNoneRow : OpenClaim := { program := "ytmonobkginiajaagreat", sum := "e1205c22000a597dac13784608f23efc0461e72920d8e386640f0db4b06d76ac", func := "horologe/horologelaw19.TreeNone", spec := "treeNone", inPlace := ["internal/bytealg.abigen_runtime_cmpstring", "slices.overlaps[horologe/node.Entry]"], unfollowed := true, recurses := true, apart := false }
def TreeNoneSaid : Prop := treeNoneRow.holds Tryz.pinned (OpenSpec.ofChange treeNoneSpec)

/-- ITS FALSE NEIGHBOUR: 'it returns false'. Refute it at one input. -/
def treeNoneWrong : ChangeSpec := { name := "treeNone", fn := fun _ => fun
  | [d] => { results := [.lit (.bool false)], args := [d] }
  | _ => none }
def TreeNoneWrongFalsely : Prop := treeNoneRow.holds Tryz.pinned (OpenSpec.ofChange treeNoneWrong)

/-- 'horologelaw19.TreeSmall': WHATEVER THE INPUT: true; the input reads as it did. -/
def treeSmallSpec : ChangeSpec := { name := "treeSmall", fn := fun _ => fun
  | [d] => { results := [.lit (.bool true)], args := [d] }
  | _ => none }
def treeSmallRow : OpenClaim := { program := "ytmonobkginiajaagreat", sum := "e1205c22000a597dac13784608f23efc0461e72920d8e386640f0db4b06d76ac", func := "horologe/horologelaw19.TreeSmall", spec := "treeSmall", inPlace := ["internal/bytealg.abigen_runtime_cmpstring", "slices.overlaps[horologe/node.Entry]"], unfollowed := true, recurses := true, apart := false }
def TreeSmallSaid : Prop := treeSmallRow.holds Tryz.pinned (OpenSpec.ofChange treeSmallSpec)

/-- ITS FALSE NEIGHBOUR: 'it returns false'. Refute it at one input. -/
def treeSmallWrong : ChangeSpec := { name := "treeSmall", fn := fun _ => fun
  | [d] => { results := [.lit (.bool false)], args := [d] }
  | _ => none }
def TreeSmallWrongFalsely : Prop := treeSmallRow.holds Tryz.pinned (OpenSpec.ofChange treeSmallWrong)

/-- 'horologelaw19.TreeCrashes': WHATEVER THE INPUT: true; the input reads as it did. -/
def treeCrashesSpec : ChangeSpec := { name := "treeCrashes", fn := fun _ => fun
  | [d1, d2, d3] => { results := [.lit (.bool true)], args := [d1, d2, d3] }
  | _ => none }
def treeCrashesRow : OpenClaim := { program := "ytmonobkginiajaagreat", sum := "e1205c22000a597dac13784608f23efc0461e72920d8e386640f0db4b06d76ac", func := "horologe/horologelaw19.TreeCrashes", spec := "treeCrashes", inPlace := ["internal/bytealg.abigen_runtime_cmpstring", "slices.overlaps[horologe/node.Entry]"], unfollowed := true, recurses := true, apart := false }
def TreeCrashesSaid : Prop := treeCrashesRow.holds Tryz.pinned (OpenSpec.ofChange treeCrashesSpec)

/-- ITS FALSE NEIGHBOUR: 'it returns false'. Refute it at one input. -/
def treeCrashesWrong : ChangeSpec := { name := "treeCrashes", fn := fun _ => fun
  | [d1, d2, d3] => { results := [.lit (.bool false)], args := [d1, d2, d3] }
  | _ => none }
def TreeCrashesWrongFalsely : Prop := treeCrashesRow.holds Tryz.pinned (OpenSpec.ofChange treeCrashesWrong)

/-- 'horologelaw21.StoreCounts': WHATEVER THE INPUT: true; the input reads as it did. -/
def storeCountsSpec : ChangeSpec := { name := "storeCounts", fn := fun _ => fun
  | [d1, d2] => { results := [.lit (.bool true)], args := [d1, d2] }
  | _ => none }
def storeCountsRow : OpenClaim := { program := "ytmonobkginiajaagreat", sum := "e1205c22000a597dac13784608f23efc0461e72920d8e386640f0db4b06d76ac", func := "horologe/horologelaw21.StoreCounts", spec := "storeCounts", inPlace := ["internal/bytealg.abigen_runtime_cmpstring", "slices.overlaps[horologe/node.Entry]"], unfollowed := true, recurses := true, apart := false }
def StoreCountsSaid : Prop := storeCountsRow.holds Tryz.pinned (OpenSpec.ofChange storeCountsSpec)

/-- ITS FALSE NEIGHBOUR: 'it returns false'. Refute it at one input. -/
def storeCountsWrong : ChangeSpec := { name := "storeCounts", fn := fun _ => fun
  | [d1, d2] => { results := [.lit (.bool false)], args := [d1, d2] }
  | _ => none }
def StoreCountsWrongFalsely : Prop := storeCountsRow.holds Tryz.pinned (OpenSpec.ofChange storeCountsWrong)

/-- 'horologelaw21.StoreApart': WHATEVER THE INPUT: true; the input reads as it did. -/
def storeApartSpec : ChangeSpec := { name := "storeApart", fn := fun _ => fun
  | [d] => { results := [.lit (.bool true)], args := [d] }
  | _ => none }
def storeApartRow : OpenClaim := { program := "ytmonobkginiajaagreat", sum := "e1205c22000a597dac13784608f23efc0461e72920d8e386640f0db4b06d76ac", func := "horologe/horologelaw21.StoreApart", spec := "storeApart", inPlace := ["internal/bytealg.abigen_runtime_cmpstring", "slices.overlaps[horologe/node.Entry]"], unfollowed := true, recurses := true, apart := false }
def StoreApartSaid : Prop := storeApartRow.holds Tryz.pinned (OpenSpec.ofChange storeApartSpec)

/-- ITS FALSE NEIGHBOUR: 'it returns false'. Refute it at one input. -/
def storeApartWrong : ChangeSpec := { name := "storeApart", fn := fun _ => fun
  | [d] => { results := [.lit (.bool false)], args := [d] }
  | _ => none }
def StoreApartWrongFalsely : Prop := storeApartRow.holds Tryz.pinned (OpenSpec.ofChange storeApartWrong)

/-- 'horologelaw21.StoreNone': WHATEVER THE INPUT: true; the input reads as it did. -/
def storeNoneSpec : ChangeSpec := { name := "storeNone", fn := fun _ => fun
  | [d] => { results := [.lit (.bool true)], args := [d] }
  | _ => none }
def storeNoneRow : OpenClaim := { program := "ytmonobkginiajaagreat", sum := "e1205c22000a597dac13784608f23efc0461e72920d8e386640f0db4b06d76ac", func := "horologe/horologelaw21.StoreNone", spec := "storeNone", inPlace := ["internal/bytealg.abigen_runtime_cmpstring", "slices.overlaps[horologe/node.Entry]"], unfollowed := true, recurses := true, apart := false }
def StoreNoneSaid : Prop := storeNoneRow.holds Tryz.pinned (OpenSpec.ofChange storeNoneSpec)

/-- ITS FALSE NEIGHBOUR: 'it returns false'. Refute it at one input. -/
def storeNoneWrong : ChangeSpec := { name := "storeNone", fn := fun _ => fun
  | [d] => { results := [.lit (.bool false)], args := [d] }
  | _ => none }
def StoreNoneWrongFalsely : Prop := storeNoneRow.holds Tryz.pinned (OpenSpec.ofChange storeNoneWrong)

/-- 'horologelaw21.StoreKept': WHATEVER THE INPUT: true; the input reads as it did. -/
def storeKeptSpec : ChangeSpec := { name := "storeKept", fn := fun _ => fun
  | [d1, d2] => { results := [.lit (.bool true)], args := [d1, d2] }
  | _ => none }
def storeKeptRow : OpenClaim := { program := "ytmonobkginiajaagreat", sum := "e1205c22000a597dac13784608f23efc0461e72920d8e386640f0db4b06d76ac", func := "horologe/horologelaw21.StoreKept", spec := "storeKept", inPlace := ["internal/bytealg.abigen_runtime_cmpstring", "slices.overlaps[horologe/node.Entry]"], unfollowed := true, recurses := true, apart := false }
def StoreKeptSaid : Prop := storeKeptRow.holds Tryz.pinned (OpenSpec.ofChange storeKeptSpec)

/-- ITS FALSE NEIGHBOUR: 'it returns false'. Refute it at one input. -/
def storeKeptWrong : ChangeSpec := { name := "storeKept", fn := fun _ => fun
  | [d1, d2] => { results := [.lit (.bool false)], args := [d1, d2] }
  | _ => none }
def StoreKeptWrongFalsely : Prop := storeKeptRow.holds Tryz.pinned (OpenSpec.ofChange storeKeptWrong)

/- THE SECOND FORM. 'bulk': how many values and letters a reading holds, each counted each time it is reached (what is shared counts as often as it is met; a slice's spare places count too). A statement '..UptoSaid' is the law's where the arguments, and the package variables that the reading takes, are together of bulk at most 1048576: NARROWER than '..Said'. Prove '..Said' where nothing that the law and all that it calls make is longer than what came in: it says more and counts as full. Else prove '..UptoSaid'. A law counts once. -/
mutual
def uptoBulk {H : Type} : DataW H → Nat
  | .lit (.string bytes) => bytes.length + 1
  | .lit _ => 1
  | .nil => 1
  | .ptr d => uptoBulk d + 1
  | .slice elems spare => uptoBulkAll elems + uptoBulkAll spare + 1
  | .agg parts => uptoBulkAll parts + 1
  | .iface _ d => uptoBulk d + 1
  | .map entries => uptoBulkEntries entries + 1
  | .held _ => 1
def uptoBulkAll {H : Type} : List (DataW H) → Nat
  | [] => 0
  | d :: r => uptoBulk d + uptoBulkAll r
def uptoBulkEntries {H : Type} : List (Lit × DataW H) → Nat
  | [] => 0
  | x :: r => uptoBulkEntry x + uptoBulkEntries r
def uptoBulkEntry {H : Type} : Lit × DataW H → Nat
  | (.string bytes, d) => bytes.length + uptoBulk d + 1
  | (_, d) => uptoBulk d + 1
 end
def uptoSmall : (H : Type) → List (DataW H) → Bool := fun _ ds => decide (uptoBulkAll ds ≤ 1048576)
def OpenSpec.upto (s : _root_.Go.ChangeSpec) : _root_.Go.OpenSpec := { _root_.Go.OpenSpec.ofChange s with cond := some uptoSmall }

/-- 'horologelaw19.TreeMaps', WHERE WHAT IT READS IS OF BULK AT MOST 1048576: true; the input reads as it did. -/
def treeMapsUptoRow : OpenClaim := { program := "ytmonobkginiajaagreat", sum := "e1205c22000a597dac13784608f23efc0461e72920d8e386640f0db4b06d76ac", func := "horologe/horologelaw19.TreeMaps", spec := "treeMaps", inPlace := ["internal/bytealg.abigen_runtime_cmpstring", "slices.overlaps[horologe/node.Entry]"], unfollowed := true, recurses := true, apart := false, narrowed := true }
def TreeMapsUptoSaid : Prop := treeMapsUptoRow.holds Tryz.pinned (OpenSpec.upto treeMapsSpec)

/-- 'horologelaw19.TreeParts', WHERE WHAT IT READS IS OF BULK AT MOST 1048576: true; the input reads as it did. -/
def treePartsUptoRow : OpenClaim := { program := "ytmonobkginiajaagreat", sum := "e1205c22000a597dac13784608f23efc0461e72920d8e386640f0db4b06d76ac", func := "horologe/horologelaw19.TreeParts", spec := "treeParts", inPlace := ["internal/bytealg.abigen_runtime_cmpstring", "slices.overlaps[horologe/node.Entry]"], unfollowed := true, recurses := true, apart := false, narrowed := true }
def TreePartsUptoSaid : Prop := treePartsUptoRow.holds Tryz.pinned (OpenSpec.upto treePartsSpec)

/-- 'horologelaw19.TreeNone', WHERE WHAT IT READS IS OF BULK AT MOST 1048576: true; the input reads as it did. -/
def treeNoneUptoRow : OpenClaim := { program := "ytmonobkginiajaagreat", sum := "e1205c22000a597dac13784608f23efc0461e72920d8e386640f0db4b06d76ac", func := "horologe/horologelaw19.TreeNone", spec := "treeNone", inPlace := ["internal/bytealg.abigen_runtime_cmpstring", "slices.overlaps[horologe/node.Entry]"], unfollowed := true, recurses := true, apart := false, narrowed := true }
def TreeNoneUptoSaid : Prop := treeNoneUptoRow.holds Tryz.pinned (OpenSpec.upto treeNoneSpec)

/-- 'horologelaw19.TreeSmall', WHERE WHAT IT READS IS OF BULK AT MOST 1048576: true; the input reads as it did. -/
def treeSmallUptoRow : OpenClaim := { program := "ytmonobkginiajaagreat", sum := "e1205c22000a597dac13784608f23efc0461e72920d8e386640f0db4b06d76ac", func := "horologe/horologelaw19.TreeSmall", spec := "treeSmall", inPlace := ["internal/bytealg.abigen_runtime_cmpstring", "slices.overlaps[horologe/node.Entry]"], unfollowed := true, recurses := true, apart := false, narrowed := true }
def TreeSmallUptoSaid : Prop := treeSmallUptoRow.holds Tryz.pinned (OpenSpec.upto treeSmallSpec)

/-- 'horologelaw19.TreeCrashes', WHERE WHAT IT READS IS OF BULK AT MOST 1048576: true; the input reads as it did. -/
def treeCrashesUptoRow : OpenClaim := { program := "ytmonobkginiajaagreat", sum := "e1205c22000a597dac13784608f23efc0461e72920d8e386640f0db4b06d76ac", func := "horologe/horologelaw19.TreeCrashes", spec := "treeCrashes", inPlace := ["internal/bytealg.abigen_runtime_cmpstring", "slices.overlaps[horologe/node.Entry]"], unfollowed := true, recurses := true, apart := false, narrowed := true }
def TreeCrashesUptoSaid : Prop := treeCrashesUptoRow.holds Tryz.pinned (OpenSpec.upto treeCrashesSpec)

/-- 'horologelaw21.StoreCounts', WHERE WHAT IT READS IS OF BULK AT MOST 1048576: true; the input reads as it did. -/
def storeCountsUptoRow : OpenClaim := { program := "ytmonobkginiajaagreat", sum := "e1205c22000a597dac13784608f23efc0461e72920d8e386640f0db4b06d76ac", func := "horologe/horologelaw21.StoreCounts", spec := "storeCounts", inPlace := ["internal/bytealg.abigen_runtime_cmpstring", "slices.overlaps[horologe/node.Entry]"], unfollowed := true, recurses := true, apart := false, narrowed := true }
def StoreCountsUptoSaid : Prop := storeCountsUptoRow.holds Tryz.pinned (OpenSpec.upto storeCountsSpec)

/-- 'horologelaw21.StoreApart', WHERE WHAT IT READS IS OF BULK AT MOST 1048576: true; the input reads as it did. -/
def storeApartUptoRow : OpenClaim := { program := "ytmonobkginiajaagreat", sum := "e1205c22000a597dac13784608f23efc0461e72920d8e386640f0db4b06d76ac", func := "horologe/horologelaw21.StoreApart", spec := "storeApart", inPlace := ["internal/bytealg.abigen_runtime_cmpstring", "slices.overlaps[horologe/node.Entry]"], unfollowed := true, recurses := true, apart := false, narrowed := true }
def StoreApartUptoSaid : Prop := storeApartUptoRow.holds Tryz.pinned (OpenSpec.upto storeApartSpec)

/-- 'horologelaw21.StoreNone', WHERE WHAT IT READS IS OF BULK AT MOST 1048576: true; the input reads as it did. -/
def storeNoneUptoRow : OpenClaim := { program := "ytmonobkginiajaagreat", sum := "e1205c22000a597dac13784608f23efc0461e72920d8e386640f0db4b06d76ac", func := "horologe/horologelaw21.StoreNone", spec := "storeNone", inPlace := ["internal/bytealg.abigen_runtime_cmpstring", "slices.overlaps[horologe/node.Entry]"], unfollowed := true, recurses := true, apart := false, narrowed := true }
def StoreNoneUptoSaid : Prop := storeNoneUptoRow.holds Tryz.pinned (OpenSpec.upto storeNoneSpec)

/-- 'horologelaw21.StoreKept', WHERE WHAT IT READS IS OF BULK AT MOST 1048576: true; the input reads as it did. -/
def storeKeptUptoRow : OpenClaim := { program := "ytmonobkginiajaagreat", sum := "e1205c22000a597dac13784608f23efc0461e72920d8e386640f0db4b06d76ac", func := "horologe/horologelaw21.StoreKept", spec := "storeKept", inPlace := ["internal/bytealg.abigen_runtime_cmpstring", "slices.overlaps[horologe/node.Entry]"], unfollowed := true, recurses := true, apart := false, narrowed := true }
def StoreKeptUptoSaid : Prop := storeKeptUptoRow.holds Tryz.pinned (OpenSpec.upto storeKeptSpec)

end Rows
end Go.Proofs.YtmonobkginiajaaGreat
