/-
  No cell of these rows narrows 'for every input' (looked for: loops, veiled, ifaces, maps, wideKeys, modest, calm, conditions, laid).
  DERIVED. THE GIVEN ROWS OF THIS SEAT. 5 by the template 'for every input the law returns true; each argument reads behind the call as it read before'; 0 by the template 'total and deterministic' (their statements: YtiiknbnaplpidabTotals.lean).
  GIVEN WITH THE SEED: the statements are not yours to turn. If you find one false, say at which input.
  Laid BY PROGRAM, IN A SANDBOX (cutbox-rows.mjs): the forced cells as the released guide's own fill.sh prints them over the translation f5524e90b2ef3723… (all of the seat's roots in one cut). By AI agents, Wed Nov 11 2026. No macro, syntax, notation, axiom, sorry.
-/
import Derived.Test.YtiiknbnaplpidabChecked
import GoSem.Claim
import GoSem.ClaimJoined
import GoSem.ClaimMapViews
import Derived.JoinedTies
import Derived.KernelRfl
namespace Go.Proofs.Ytiiknbnaplpidab
/- THE CELL 'sum', in the pinned program and in every row, IS THE sha256 OF THE DUMP (.gsa) THAT YtiiknbnaplpidabProg.lean LOADS. Nothing in Lean hashes anything: it is a label: what it is worth is what the hold of that sum in a sandbox is worth. -/
noncomputable def Try.pinned : Pinned := { name := "ytiiknbnaplpidab", sum := "f5524e90b2ef37236237422a03b798e2f5425ab34f2be77a1718e765195926ed", checked := Try.checked }
namespace Rows
def none {H : Type} : Left H := { results := [], args := [] }

/-- 'horologelaw12.FreemapOne': WHATEVER THE INPUT: true; the input reads as it did. -/
def freemapOneSpec : ChangeSpec := { name := "freemapOne", fn := fun _ => fun
  | [d] => { results := [.lit (.bool true)], args := [d] }
  | _ => none }
def freemapOneRow : OpenClaim := { program := "ytiiknbnaplpidab", sum := "f5524e90b2ef37236237422a03b798e2f5425ab34f2be77a1718e765195926ed", func := "horologe/horologelaw12.FreemapOne", spec := "freemapOne", unfollowed := true, recurses := true, apart := false }
def FreemapOneSaid : Prop := freemapOneRow.holds Try.pinned (OpenSpec.ofChange freemapOneSpec)

/-- ITS FALSE NEIGHBOUR: 'it returns false'. Refute it at one input. -/
def freemapOneWrong : ChangeSpec := { name := "freemapOne", fn := fun _ => fun
  | [d] => { results := [.lit (.bool false)], args := [d] }
  | _ => none }
def FreemapOneWrongFalsely : Prop := freemapOneRow.holds Try.pinned (OpenSpec.ofChange freemapOneWrong)

/-- 'horologelaw12.FreemapKept': WHATEVER THE INPUT: true; the input reads as it did. -/
def freemapKeptSpec : ChangeSpec := { name := "freemapKept", fn := fun _ => fun
  | [d1, d2] => { results := [.lit (.bool true)], args := [d1, d2] }
  | _ => none }
def freemapKeptRow : OpenClaim := { program := "ytiiknbnaplpidab", sum := "f5524e90b2ef37236237422a03b798e2f5425ab34f2be77a1718e765195926ed", func := "horologe/horologelaw12.FreemapKept", spec := "freemapKept", unfollowed := true, recurses := true, apart := false }
def FreemapKeptSaid : Prop := freemapKeptRow.holds Try.pinned (OpenSpec.ofChange freemapKeptSpec)

/-- ITS FALSE NEIGHBOUR: 'it returns false'. Refute it at one input. -/
def freemapKeptWrong : ChangeSpec := { name := "freemapKept", fn := fun _ => fun
  | [d1, d2] => { results := [.lit (.bool false)], args := [d1, d2] }
  | _ => none }
def FreemapKeptWrongFalsely : Prop := freemapKeptRow.holds Try.pinned (OpenSpec.ofChange freemapKeptWrong)

/-- 'horologelaw12.FreemapAborts': WHATEVER THE INPUT: true; the input reads as it did. -/
def freemapAbortsSpec : ChangeSpec := { name := "freemapAborts", fn := fun _ => fun
  | [d1, d2] => { results := [.lit (.bool true)], args := [d1, d2] }
  | _ => none }
def freemapAbortsRow : OpenClaim := { program := "ytiiknbnaplpidab", sum := "f5524e90b2ef37236237422a03b798e2f5425ab34f2be77a1718e765195926ed", func := "horologe/horologelaw12.FreemapAborts", spec := "freemapAborts", unfollowed := true, recurses := true, apart := false }
def FreemapAbortsSaid : Prop := freemapAbortsRow.holds Try.pinned (OpenSpec.ofChange freemapAbortsSpec)

/-- ITS FALSE NEIGHBOUR: 'it returns false'. Refute it at one input. -/
def freemapAbortsWrong : ChangeSpec := { name := "freemapAborts", fn := fun _ => fun
  | [d1, d2] => { results := [.lit (.bool false)], args := [d1, d2] }
  | _ => none }
def FreemapAbortsWrongFalsely : Prop := freemapAbortsRow.holds Try.pinned (OpenSpec.ofChange freemapAbortsWrong)

/-- 'horologelaw12.FreemapDoes': WHATEVER THE INPUT: true; the input reads as it did. -/
def freemapDoesSpec : ChangeSpec := { name := "freemapDoes", fn := fun _ => fun
  | [d1, d2, d3] => { results := [.lit (.bool true)], args := [d1, d2, d3] }
  | _ => none }
def freemapDoesRow : OpenClaim := { program := "ytiiknbnaplpidab", sum := "f5524e90b2ef37236237422a03b798e2f5425ab34f2be77a1718e765195926ed", func := "horologe/horologelaw12.FreemapDoes", spec := "freemapDoes", unfollowed := true, recurses := true, apart := false }
def FreemapDoesSaid : Prop := freemapDoesRow.holds Try.pinned (OpenSpec.ofChange freemapDoesSpec)

/-- ITS FALSE NEIGHBOUR: 'it returns false'. Refute it at one input. -/
def freemapDoesWrong : ChangeSpec := { name := "freemapDoes", fn := fun _ => fun
  | [d1, d2, d3] => { results := [.lit (.bool false)], args := [d1, d2, d3] }
  | _ => none }
def FreemapDoesWrongFalsely : Prop := freemapDoesRow.holds Try.pinned (OpenSpec.ofChange freemapDoesWrong)

/-- 'horologelaw12.FreemapNone': WHATEVER THE INPUT: true; the input reads as it did. -/
def freemapNoneSpec : ChangeSpec := { name := "freemapNone", fn := fun _ => fun
  | [d] => { results := [.lit (.bool true)], args := [d] }
  | _ => none }
def freemapNoneRow : OpenClaim := { program := "ytiiknbnaplpidab", sum := "f5524e90b2ef37236237422a03b798e2f5425ab34f2be77a1718e765195926ed", func := "horologe/horologelaw12.FreemapNone", spec := "freemapNone", unfollowed := true, recurses := true, apart := false }
def FreemapNoneSaid : Prop := freemapNoneRow.holds Try.pinned (OpenSpec.ofChange freemapNoneSpec)

/-- ITS FALSE NEIGHBOUR: 'it returns false'. Refute it at one input. -/
def freemapNoneWrong : ChangeSpec := { name := "freemapNone", fn := fun _ => fun
  | [d] => { results := [.lit (.bool false)], args := [d] }
  | _ => none }
def FreemapNoneWrongFalsely : Prop := freemapNoneRow.holds Try.pinned (OpenSpec.ofChange freemapNoneWrong)

/- THE SECOND FORM. 'bulk': how many values and letters a reading holds, each counted each time it is reached (what is shared counts as often as it is met; a slice's spare places count too). A statement '..UptoSaid' is the law's where the arguments, and the package variables that the reading takes, are together of bulk at most 1048576: NARROWER than '..Said'. Prove '..Said' where nothing that the law and all that it calls make is longer than what came in: it says more and counts as full. Else prove '..UptoSaid'. A law counts once. -/
mutual
def uptoBulk {H : Type} : DataW H → Nat
  | .lit (.string bytes) => bytes.length + 1
  | .lit _ => 1
  | .nil => 1
  | .ptr d => uptoBulk d + 1
  | .slice elems spare => uptoBulkAll elems + uptoBulkAll spare + 1
  | .agg parts => uptoBulkAll parts + 1
  | .iface _ d => uptoBulk d + 1
  | .map entries => uptoBulkEntries entries + 1
  | .held _ => 1
def uptoBulkAll {H : Type} : List (DataW H) → Nat
  | [] => 0
  | d :: r => uptoBulk d + uptoBulkAll r
def uptoBulkEntries {H : Type} : List (Lit × DataW H) → Nat
  | [] => 0
  | x :: r => uptoBulkEntry x + uptoBulkEntries r
def uptoBulkEntry {H : Type} : Lit × DataW H → Nat
  | (.string bytes, d) => bytes.length + uptoBulk d + 1
  | (_, d) => uptoBulk d + 1
 end
def uptoSmall : (H : Type) → List (DataW H) → Bool := fun _ ds => decide (uptoBulkAll ds ≤ 1048576)
def OpenSpec.upto (s : _root_.Go.ChangeSpec) : _root_.Go.OpenSpec := { _root_.Go.OpenSpec.ofChange s with cond := some uptoSmall }

/-- 'horologelaw12.FreemapOne', WHERE WHAT IT READS IS OF BULK AT MOST 1048576: true; the input reads as it did. -/
def freemapOneUptoRow : OpenClaim := { program := "ytiiknbnaplpidab", sum := "f5524e90b2ef37236237422a03b798e2f5425ab34f2be77a1718e765195926ed", func := "horologe/horologelaw12.FreemapOne", spec := "freemapOne", unfollowed := true, recurses := true, apart := false, narrowed := true }
def FreemapOneUptoSaid : Prop := freemapOneUptoRow.holds Try.pinned (OpenSpec.upto freemapOneSpec)

/-- 'horologelaw12.FreemapKept', WHERE WHAT IT READS IS OF BULK AT MOST 1048576: true; the input reads as it did. -/
def freemapKeptUptoRow : OpenClaim := { program := "ytiiknbnaplpidab", sum := "f5524e90b2ef37236237422a03b798e2f5425ab34f2be77a1718e765195926ed", func := "horologe/horologelaw12.FreemapKept", spec := "freemapKept", unfollowed := true, recurses := true, apart := false, narrowed := true }
def FreemapKeptUptoSaid : Prop := freemapKeptUptoRow.holds Try.pinned (OpenSpec.upto freemapKeptSpec)

/-- 'horologelaw12.FreemapAborts', WHERE WHAT IT READS IS OF BULK AT MOST 1048576: true; the input reads as it did. -/
def freemapAbortsUptoRow : OpenClaim := { program := "ytiiknbnaplpidab", sum := "f5524e90b2ef37236237422a03b798e2f5425ab34f2be77a1718e765195926ed", func := "horologe/horologelaw12.FreemapAborts", spec := "freemapAborts", unfollowed := true, recurses := true, apart := false, narrowed := true }
def FreemapAbortsUptoSaid : Prop := freemapAbortsUptoRow.holds Try.pinned (OpenSpec.upto freemapAbortsSpec)

/-- 'horologelaw12.FreemapDoes', WHERE WHAT IT READS IS OF BULK AT MOST 1048576: true; the input reads as it did. -/
def freemapDoesUptoRow : OpenClaim := { program := "ytiiknbnaplpidab", sum := "f5524e90b2ef37236237422a03b798e2f5425ab34f2be77a1718e765195926ed", func := "horologe/horologelaw12.FreemapDoes", spec := "freemapDoes", unfollowed := true, recurses := true, apart := false, narrowed := true }
def FreemapDoesUptoSaid : Prop := freemapDoesUptoRow.holds Try.pinned (OpenSpec.upto freemapDoesSpec)

/-- 'horologelaw12.FreemapNone', WHERE WHAT IT READS IS OF BULK AT MOST 1048576: true; the input reads as it did. -/
def freemapNoneUptoRow : OpenClaim := { program := "ytiiknbnaplpidab", sum := "f5524e90b2ef37236237422a03b798e2f5425ab34f2be77a1718e765195926ed", func := "horologe/horologelaw12.FreemapNone", spec := "freemapNone", unfollowed := true, recurses := true, apart := false, narrowed := true }
def FreemapNoneUptoSaid : Prop := freemapNoneUptoRow.holds Try.pinned (OpenSpec.upto freemapNoneSpec)

end Rows
end Go.Proofs.Ytiiknbnaplpidab
