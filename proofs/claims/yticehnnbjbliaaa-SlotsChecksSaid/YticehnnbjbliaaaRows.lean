/-
  No cell of these rows narrows 'for every input' (looked for: loops, veiled, ifaces, maps, wideKeys, modest, calm, conditions, laid).
  DERIVED. THE GIVEN ROWS OF THIS SEAT. 5 by the template 'for every input the law returns true; each argument reads behind the call as it read before'; 0 by the template 'total and deterministic' (their statements: YticehnnbjbliaaaTotals.lean).
  GIVEN WITH THE SEED: the statements are not yours to turn. If you find one false, say at which input.
  Laid BY PROGRAM, IN A SANDBOX (cutbox-rows.mjs): the forced cells as the released guide's own fill.sh prints them over the translation eee5f407d6c316dc… (all of the seat's roots in one cut). By AI agents, Wed Nov 11 2026. No macro, syntax, notation, axiom, sorry.
-/
import Derived.Test.YticehnnbjbliaaaChecked
import GoSem.Claim
import GoSem.ClaimJoined
import GoSem.ClaimMapViews
import Derived.JoinedTies
import Derived.KernelRfl
namespace Go.Proofs.Yticehnnbjbliaaa
/- THE CELL 'sum', in the pinned program and in every row, IS THE sha256 OF THE DUMP (.gsa) THAT YticehnnbjbliaaaProg.lean LOADS. Nothing in Lean hashes anything: it is a label: what it is worth is what the hold of that sum in a sandbox is worth. -/
noncomputable def Try.pinned : Pinned := { name := "yticehnnbjbliaaa", sum := "eee5f407d6c316dc5b49d2e30707c94c583b5de436df019456ef36ecb56437e0", checked := Try.checked }
namespace Rows
def none {H : Type} : Left H := { results := [], args := [] }

/-- 'horologelaw17.SlotsBytes': WHATEVER THE INPUT: true; the input reads as it did. -/
def slotsBytesSpec : ChangeSpec := { name := "slotsBytes", fn := fun _ => fun
  | [d] => { results := [.lit (.bool true)], args := [d] }
  | _ => none }
def slotsBytesRow : OpenClaim := { program := "yticehnnbjbliaaa", sum := "eee5f407d6c316dc5b49d2e30707c94c583b5de436df019456ef36ecb56437e0", func := "horologe/horologelaw17.SlotsBytes", spec := "slotsBytes", unfollowed := true, recurses := true, apart := false }
def SlotsBytesSaid : Prop := slotsBytesRow.holds Try.pinned (OpenSpec.ofChange slotsBytesSpec)

/-- ITS FALSE NEIGHBOUR: 'it returns false'. Refute it at one input. -/
def slotsBytesWrong : ChangeSpec := { name := "slotsBytes", fn := fun _ => fun
  | [d] => { results := [.lit (.bool false)], args := [d] }
  | _ => none }
def SlotsBytesWrongFalsely : Prop := slotsBytesRow.holds Try.pinned (OpenSpec.ofChange slotsBytesWrong)

/-- 'horologelaw17.SlotsList': WHATEVER THE INPUT: true; the input reads as it did. -/
def slotsListSpec : ChangeSpec := { name := "slotsList", fn := fun _ => fun
  | [d] => { results := [.lit (.bool true)], args := [d] }
  | _ => none }
def slotsListRow : OpenClaim := { program := "yticehnnbjbliaaa", sum := "eee5f407d6c316dc5b49d2e30707c94c583b5de436df019456ef36ecb56437e0", func := "horologe/horologelaw17.SlotsList", spec := "slotsList", unfollowed := true, recurses := true, apart := false }
def SlotsListSaid : Prop := slotsListRow.holds Try.pinned (OpenSpec.ofChange slotsListSpec)

/-- ITS FALSE NEIGHBOUR: 'it returns false'. Refute it at one input. -/
def slotsListWrong : ChangeSpec := { name := "slotsList", fn := fun _ => fun
  | [d] => { results := [.lit (.bool false)], args := [d] }
  | _ => none }
def SlotsListWrongFalsely : Prop := slotsListRow.holds Try.pinned (OpenSpec.ofChange slotsListWrong)

/-- 'horologelaw17.SlotsChecks': WHATEVER THE INPUT: true; the input reads as it did. -/
def slotsChecksSpec : ChangeSpec := { name := "slotsChecks", fn := fun _ => fun
  | [d1, d2, d3] => { results := [.lit (.bool true)], args := [d1, d2, d3] }
  | _ => none }
def slotsChecksRow : OpenClaim := { program := "yticehnnbjbliaaa", sum := "eee5f407d6c316dc5b49d2e30707c94c583b5de436df019456ef36ecb56437e0", func := "horologe/horologelaw17.SlotsChecks", spec := "slotsChecks", unfollowed := true, recurses := true, apart := false }
def SlotsChecksSaid : Prop := slotsChecksRow.holds Try.pinned (OpenSpec.ofChange slotsChecksSpec)

/-- ITS FALSE NEIGHBOUR: 'it returns false'. Refute it at one input. -/
def slotsChecksWrong : ChangeSpec := { name := "slotsChecks", fn := fun _ => fun
  | [d1, d2, d3] => { results := [.lit (.bool false)], args := [d1, d2, d3] }
  | _ => none }
def SlotsChecksWrongFalsely : Prop := slotsChecksRow.holds Try.pinned (OpenSpec.ofChange slotsChecksWrong)

/-- 'horologelaw17.SlotsCompact': WHATEVER THE INPUT: true; the input reads as it did. -/
def slotsCompactSpec : ChangeSpec := { name := "slotsCompact", fn := fun _ => fun
  | [d] => { results := [.lit (.bool true)], args := [d] }
  | _ => none }
def slotsCompactRow : OpenClaim := { program := "yticehnnbjbliaaa", sum := "eee5f407d6c316dc5b49d2e30707c94c583b5de436df019456ef36ecb56437e0", func := "horologe/horologelaw17.SlotsCompact", spec := "slotsCompact", unfollowed := true, recurses := true, apart := false }
def SlotsCompactSaid : Prop := slotsCompactRow.holds Try.pinned (OpenSpec.ofChange slotsCompactSpec)

/-- ITS FALSE NEIGHBOUR: 'it returns false'. Refute it at one input. -/
def slotsCompactWrong : ChangeSpec := { name := "slotsCompact", fn := fun _ => fun
  | [d] => { results := [.lit (.bool false)], args := [d] }
  | _ => none }
def SlotsCompactWrongFalsely : Prop := slotsCompactRow.holds Try.pinned (OpenSpec.ofChange slotsCompactWrong)

/-- 'horologelaw17.SlotsOf': WHATEVER THE INPUT: true; the input reads as it did. -/
def slotsOfSpec : ChangeSpec := { name := "slotsOf", fn := fun _ => fun
  | [d] => { results := [.lit (.bool true)], args := [d] }
  | _ => none }
def slotsOfRow : OpenClaim := { program := "yticehnnbjbliaaa", sum := "eee5f407d6c316dc5b49d2e30707c94c583b5de436df019456ef36ecb56437e0", func := "horologe/horologelaw17.SlotsOf", spec := "slotsOf", unfollowed := true, recurses := true, apart := false }
def SlotsOfSaid : Prop := slotsOfRow.holds Try.pinned (OpenSpec.ofChange slotsOfSpec)

/-- ITS FALSE NEIGHBOUR: 'it returns false'. Refute it at one input. -/
def slotsOfWrong : ChangeSpec := { name := "slotsOf", fn := fun _ => fun
  | [d] => { results := [.lit (.bool false)], args := [d] }
  | _ => none }
def SlotsOfWrongFalsely : Prop := slotsOfRow.holds Try.pinned (OpenSpec.ofChange slotsOfWrong)

/- THE SECOND FORM. 'bulk': how many values and letters a reading holds, each counted each time it is reached (what is shared counts as often as it is met; a slice's spare places count too). A statement '..UptoSaid' is the law's where the arguments, and the package variables that the reading takes, are together of bulk at most 1048576: NARROWER than '..Said'. Prove '..Said' where nothing that the law and all that it calls make is longer than what came in: it says more and counts as full. Else prove '..UptoSaid'. A law counts once. -/
mutual
def uptoBulk {H : Type} : DataW H → Nat
  | .lit (.string bytes) => bytes.length + 1
  | .lit _ => 1
  | .nil => 1
  | .ptr d => uptoBulk d + 1
  | .slice elems spare => uptoBulkAll elems + uptoBulkAll spare + 1
  | .agg parts => uptoBulkAll parts + 1
  | .iface _ d => uptoBulk d + 1
  | .map entries => uptoBulkEntries entries + 1
  | .held _ => 1
def uptoBulkAll {H : Type} : List (DataW H) → Nat
  | [] => 0
  | d :: r => uptoBulk d + uptoBulkAll r
def uptoBulkEntries {H : Type} : List (Lit × DataW H) → Nat
  | [] => 0
  | x :: r => uptoBulkEntry x + uptoBulkEntries r
def uptoBulkEntry {H : Type} : Lit × DataW H → Nat
  | (.string bytes, d) => bytes.length + uptoBulk d + 1
  | (_, d) => uptoBulk d + 1
 end
def uptoSmall : (H : Type) → List (DataW H) → Bool := fun _ ds => decide (uptoBulkAll ds ≤ 1048576)
def OpenSpec.upto (s : _root_.Go.ChangeSpec) : _root_.Go.OpenSpec := { _root_.Go.OpenSpec.ofChange s with cond := some uptoSmall }

/-- 'horologelaw17.SlotsBytes', WHERE WHAT IT READS IS OF BULK AT MOST 1048576: true; the input reads as it did. -/
def slotsBytesUptoRow : OpenClaim := { program := "yticehnnbjbliaaa", sum := "eee5f407d6c316dc5b49d2e30707c94c583b5de436df019456ef36ecb56437e0", func := "horologe/horologelaw17.SlotsBytes", spec := "slotsBytes", unfollowed := true, recurses := true, apart := false, narrowed := true }
def SlotsBytesUptoSaid : Prop := slotsBytesUptoRow.holds Try.pinned (OpenSpec.upto slotsBytesSpec)

/-- 'horologelaw17.SlotsList', WHERE WHAT IT READS IS OF BULK AT MOST 1048576: true; the input reads as it did. -/
def slotsListUptoRow : OpenClaim := { program := "yticehnnbjbliaaa", sum := "eee5f407d6c316dc5b49d2e30707c94c583b5de436df019456ef36ecb56437e0", func := "horologe/horologelaw17.SlotsList", spec := "slotsList", unfollowed := true, recurses := true, apart := false, narrowed := true }
def SlotsListUptoSaid : Prop := slotsListUptoRow.holds Try.pinned (OpenSpec.upto slotsListSpec)

/-- 'horologelaw17.SlotsChecks', WHERE WHAT IT READS IS OF BULK AT MOST 1048576: true; the input reads as it did. -/
def slotsChecksUptoRow : OpenClaim := { program := "yticehnnbjbliaaa", sum := "eee5f407d6c316dc5b49d2e30707c94c583b5de436df019456ef36ecb56437e0", func := "horologe/horologelaw17.SlotsChecks", spec := "slotsChecks", unfollowed := true, recurses := true, apart := false, narrowed := true }
def SlotsChecksUptoSaid : Prop := slotsChecksUptoRow.holds Try.pinned (OpenSpec.upto slotsChecksSpec)

/-- 'horologelaw17.SlotsCompact', WHERE WHAT IT READS IS OF BULK AT MOST 1048576: true; the input reads as it did. -/
def slotsCompactUptoRow : OpenClaim := { program := "yticehnnbjbliaaa", sum := "eee5f407d6c316dc5b49d2e30707c94c583b5de436df019456ef36ecb56437e0", func := "horologe/horologelaw17.SlotsCompact", spec := "slotsCompact", unfollowed := true, recurses := true, apart := false, narrowed := true }
def SlotsCompactUptoSaid : Prop := slotsCompactUptoRow.holds Try.pinned (OpenSpec.upto slotsCompactSpec)

/-- 'horologelaw17.SlotsOf', WHERE WHAT IT READS IS OF BULK AT MOST 1048576: true; the input reads as it did. -/
def slotsOfUptoRow : OpenClaim := { program := "yticehnnbjbliaaa", sum := "eee5f407d6c316dc5b49d2e30707c94c583b5de436df019456ef36ecb56437e0", func := "horologe/horologelaw17.SlotsOf", spec := "slotsOf", unfollowed := true, recurses := true, apart := false, narrowed := true }
def SlotsOfUptoSaid : Prop := slotsOfUptoRow.holds Try.pinned (OpenSpec.upto slotsOfSpec)

end Rows
end Go.Proofs.Yticehnnbjbliaaa
