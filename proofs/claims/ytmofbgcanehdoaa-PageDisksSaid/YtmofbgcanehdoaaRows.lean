/-
  No cell of these rows narrows 'for every input' (looked for: loops, veiled, ifaces, maps, wideKeys, modest, calm, conditions, laid).
  DERIVED. THE GIVEN ROWS OF THIS SEAT. 6 by the template 'for every input the law returns true; each argument reads behind the call as it read before'; 0 by the template 'total and deterministic' (their statements: YtmofbgcanehdoaaTotals.lean).
  GIVEN WITH THE SEED: the statements are not yours to turn. If you find one false, say at which input.
  Laid BY PROGRAM, IN A SANDBOX (cutbox-rows.mjs): the forced cells as the released guide's own fill.sh prints them over the translation 82acbfcc1d85f641… (all of the seat's roots in one cut). By AI agents, Wed Nov 11 2026. No macro, syntax, notation, axiom, sorry.
-/
import Derived.Test.YtmofbgcanehdoaaChecked
import GoSem.Claim
import GoSem.ClaimJoined
import GoSem.ClaimMapViews
import Derived.JoinedTies
import Derived.KernelRfl
namespace Go.Proofs.Ytmofbgcanehdoaa
/- THE CELL 'sum', in the pinned program and in every row, IS THE sha256 OF THE DUMP (.gsa) THAT YtmofbgcanehdoaaProg.lean LOADS. Nothing in Lean hashes anything: it is a label: what it is worth is what the hold of that sum in a sandbox is worth. -/
noncomputable def Try.pinned : Pinned := { name := "ytmofbgcanehdoaa", sum := "82acbfcc1d85f641a25bc60c0965c28f092939a7a6df95472c0f3f311e07baf3", checked := Try.checked }
namespace Rows
def none {H : Type} : Left H := { results := [], args := [] }

/-- 'horologelaw11.PagePuts': WHATEVER THE INPUT: true; the input reads as it did. -/
def pagePutsSpec : ChangeSpec := { name := "pagePuts", fn := fun _ => fun
  | [d] => { results := [.lit (.bool true)], args := [d] }
  | _ => none }
def pagePutsRow : OpenClaim := { program := "ytmofbgcanehdoaa", sum := "82acbfcc1d85f641a25bc60c0965c28f092939a7a6df95472c0f3f311e07baf3", func := "horologe/horologelaw11.PagePuts", spec := "pagePuts", unfollowed := true, recurses := true, apart := false }
def PagePutsSaid : Prop := pagePutsRow.holds Try.pinned (OpenSpec.ofChange pagePutsSpec)

/-- ITS FALSE NEIGHBOUR: 'it returns false'. Refute it at one input. -/
def pagePutsWrong : ChangeSpec := { name := "pagePuts", fn := fun _ => fun
  | [d] => { results := [.lit (.bool false)], args := [d] }
  | _ => none }
def PagePutsWrongFalsely : Prop := pagePutsRow.holds Try.pinned (OpenSpec.ofChange pagePutsWrong)

/-- 'horologelaw11.PageGets': WHATEVER THE INPUT: true; the input reads as it did. -/
def pageGetsSpec : ChangeSpec := { name := "pageGets", fn := fun _ => fun
  | [d] => { results := [.lit (.bool true)], args := [d] }
  | _ => none }
def pageGetsRow : OpenClaim := { program := "ytmofbgcanehdoaa", sum := "82acbfcc1d85f641a25bc60c0965c28f092939a7a6df95472c0f3f311e07baf3", func := "horologe/horologelaw11.PageGets", spec := "pageGets", unfollowed := true, recurses := true, apart := false }
def PageGetsSaid : Prop := pageGetsRow.holds Try.pinned (OpenSpec.ofChange pageGetsSpec)

/-- ITS FALSE NEIGHBOUR: 'it returns false'. Refute it at one input. -/
def pageGetsWrong : ChangeSpec := { name := "pageGets", fn := fun _ => fun
  | [d] => { results := [.lit (.bool false)], args := [d] }
  | _ => none }
def PageGetsWrongFalsely : Prop := pageGetsRow.holds Try.pinned (OpenSpec.ofChange pageGetsWrong)

/-- 'horologelaw11.PageBack': WHATEVER THE INPUT: true; the input reads as it did. -/
def pageBackSpec : ChangeSpec := { name := "pageBack", fn := fun _ => fun
  | [d1, d2] => { results := [.lit (.bool true)], args := [d1, d2] }
  | _ => none }
def pageBackRow : OpenClaim := { program := "ytmofbgcanehdoaa", sum := "82acbfcc1d85f641a25bc60c0965c28f092939a7a6df95472c0f3f311e07baf3", func := "horologe/horologelaw11.PageBack", spec := "pageBack", unfollowed := true, recurses := true, apart := false }
def PageBackSaid : Prop := pageBackRow.holds Try.pinned (OpenSpec.ofChange pageBackSpec)

/-- ITS FALSE NEIGHBOUR: 'it returns false'. Refute it at one input. -/
def pageBackWrong : ChangeSpec := { name := "pageBack", fn := fun _ => fun
  | [d1, d2] => { results := [.lit (.bool false)], args := [d1, d2] }
  | _ => none }
def PageBackWrongFalsely : Prop := pageBackRow.holds Try.pinned (OpenSpec.ofChange pageBackWrong)

/-- 'horologelaw11.PageApart': WHATEVER THE INPUT: true; the input reads as it did. -/
def pageApartSpec : ChangeSpec := { name := "pageApart", fn := fun _ => fun
  | [d1, d2] => { results := [.lit (.bool true)], args := [d1, d2] }
  | _ => none }
def pageApartRow : OpenClaim := { program := "ytmofbgcanehdoaa", sum := "82acbfcc1d85f641a25bc60c0965c28f092939a7a6df95472c0f3f311e07baf3", func := "horologe/horologelaw11.PageApart", spec := "pageApart", unfollowed := true, recurses := true, apart := false }
def PageApartSaid : Prop := pageApartRow.holds Try.pinned (OpenSpec.ofChange pageApartSpec)

/-- ITS FALSE NEIGHBOUR: 'it returns false'. Refute it at one input. -/
def pageApartWrong : ChangeSpec := { name := "pageApart", fn := fun _ => fun
  | [d1, d2] => { results := [.lit (.bool false)], args := [d1, d2] }
  | _ => none }
def PageApartWrongFalsely : Prop := pageApartRow.holds Try.pinned (OpenSpec.ofChange pageApartWrong)

/-- 'horologelaw11.PageNone': WHATEVER THE INPUT: true; the input reads as it did. -/
def pageNoneSpec : ChangeSpec := { name := "pageNone", fn := fun _ => fun
  | [d1, d2] => { results := [.lit (.bool true)], args := [d1, d2] }
  | _ => none }
def pageNoneRow : OpenClaim := { program := "ytmofbgcanehdoaa", sum := "82acbfcc1d85f641a25bc60c0965c28f092939a7a6df95472c0f3f311e07baf3", func := "horologe/horologelaw11.PageNone", spec := "pageNone", unfollowed := true, recurses := true, apart := false }
def PageNoneSaid : Prop := pageNoneRow.holds Try.pinned (OpenSpec.ofChange pageNoneSpec)

/-- ITS FALSE NEIGHBOUR: 'it returns false'. Refute it at one input. -/
def pageNoneWrong : ChangeSpec := { name := "pageNone", fn := fun _ => fun
  | [d1, d2] => { results := [.lit (.bool false)], args := [d1, d2] }
  | _ => none }
def PageNoneWrongFalsely : Prop := pageNoneRow.holds Try.pinned (OpenSpec.ofChange pageNoneWrong)

/-- 'horologelaw11.PageDisks': WHATEVER THE INPUT: true; the input reads as it did. -/
def pageDisksSpec : ChangeSpec := { name := "pageDisks", fn := fun _ => fun
  | [d1, d2] => { results := [.lit (.bool true)], args := [d1, d2] }
  | _ => none }
def pageDisksRow : OpenClaim := { program := "ytmofbgcanehdoaa", sum := "82acbfcc1d85f641a25bc60c0965c28f092939a7a6df95472c0f3f311e07baf3", func := "horologe/horologelaw11.PageDisks", spec := "pageDisks", unfollowed := true, recurses := true, apart := false }
def PageDisksSaid : Prop := pageDisksRow.holds Try.pinned (OpenSpec.ofChange pageDisksSpec)

/-- ITS FALSE NEIGHBOUR: 'it returns false'. Refute it at one input. -/
def pageDisksWrong : ChangeSpec := { name := "pageDisks", fn := fun _ => fun
  | [d1, d2] => { results := [.lit (.bool false)], args := [d1, d2] }
  | _ => none }
def PageDisksWrongFalsely : Prop := pageDisksRow.holds Try.pinned (OpenSpec.ofChange pageDisksWrong)

/- THE SECOND FORM. 'bulk': how many values and letters a reading holds, each counted each time it is reached (what is shared counts as often as it is met; a slice's spare places count too). A statement '..UptoSaid' is the law's where the arguments, and the package variables that the reading takes, are together of bulk at most 1048576: NARROWER than '..Said'. Prove '..Said' where nothing that the law and all that it calls make is longer than what came in: it says more and counts as full. Else prove '..UptoSaid'. A law counts once. -/
mutual
def uptoBulk {H : Type} : DataW H → Nat
  | .lit (.string bytes) => bytes.length + 1
  | .lit _ => 1
  | .nil => 1
  | .ptr d => uptoBulk d + 1
  | .slice elems spare => uptoBulkAll elems + uptoBulkAll spare + 1
  | .agg parts => uptoBulkAll parts + 1
  | .iface _ d => uptoBulk d + 1
  | .map entries => uptoBulkEntries entries + 1
  | .held _ => 1
def uptoBulkAll {H : Type} : List (DataW H) → Nat
  | [] => 0
  | d :: r => uptoBulk d + uptoBulkAll r
def uptoBulkEntries {H : Type} : List (Lit × DataW H) → Nat
  | [] => 0
  | x :: r => uptoBulkEntry x + uptoBulkEntries r
def uptoBulkEntry {H : Type} : Lit × DataW H → Nat
  | (.string bytes, d) => bytes.length + uptoBulk d + 1
  | (_, d) => uptoBulk d + 1
 end
def uptoSmall : (H : Type) → List (DataW H) → Bool := fun _ ds => decide (uptoBulkAll ds ≤ 1048576)
def OpenSpec.upto (s : _root_.Go.ChangeSpec) : _root_.Go.OpenSpec := { _root_.Go.OpenSpec.ofChange s with cond := some uptoSmall }

/-- 'horologelaw11.PagePuts', WHERE WHAT IT READS IS OF BULK AT MOST 1048576: true; the input reads as it did. -/
def pagePutsUptoRow : OpenClaim := { program := "ytmofbgcanehdoaa", sum := "82acbfcc1d85f641a25bc60c0965c28f092939a7a6df95472c0f3f311e07baf3", func := "horologe/horologelaw11.PagePuts", spec := "pagePuts", unfollowed := true, recurses := true, apart := false, narrowed := true }
def PagePutsUptoSaid : Prop := pagePutsUptoRow.holds Try.pinned (OpenSpec.upto pagePutsSpec)

/-- 'horologelaw11.PageGets', WHERE WHAT IT READS IS OF BULK AT MOST 1048576: true; the input reads as it did. -/
def pageGetsUptoRow : OpenClaim := { program := "ytmofbgcanehdoaa", sum := "82acbfcc1d85f641a25bc60c0965c28f092939a7a6df95472c0f3f311e07baf3", func := "horologe/horologelaw11.PageGets", spec := "pageGets", unfollowed := true, recurses := true, apart := false, narrowed := true }
def PageGetsUptoSaid : Prop := pageGetsUptoRow.holds Try.pinned (OpenSpec.upto pageGetsSpec)

/-- 'horologelaw11.PageBack', WHERE WHAT IT READS IS OF BULK AT MOST 1048576: true; the input reads as it did. -/
def pageBackUptoRow : OpenClaim := { program := "ytmofbgcanehdoaa", sum := "82acbfcc1d85f641a25bc60c0965c28f092939a7a6df95472c0f3f311e07baf3", func := "horologe/horologelaw11.PageBack", spec := "pageBack", unfollowed := true, recurses := true, apart := false, narrowed := true }
def PageBackUptoSaid : Prop := pageBackUptoRow.holds Try.pinned (OpenSpec.upto pageBackSpec)

/-- 'horologelaw11.PageApart', WHERE WHAT IT READS IS OF BULK AT MOST 1048576: true; the input reads as it did. -/
def pageApartUptoRow : OpenClaim := { program := "ytmofbgcanehdoaa", sum := "82acbfcc1d85f641a25bc60c0965c28f092939a7a6df95472c0f3f311e07baf3", func := "horologe/horologelaw11.PageApart", spec := "pageApart", unfollowed := true, recurses := true, apart := false, narrowed := true }
def PageApartUptoSaid : Prop := pageApartUptoRow.holds Try.pinned (OpenSpec.upto pageApartSpec)

/-- 'horologelaw11.PageNone', WHERE WHAT IT READS IS OF BULK AT MOST 1048576: true; the input reads as it did. -/
def pageNoneUptoRow : OpenClaim := { program := "ytmofbgcanehdoaa", sum := "82acbfcc1d85f641a25bc60c0965c28f092939a7a6df95472c0f3f311e07baf3", func := "horologe/horologelaw11.PageNone", spec := "pageNone", unfollowed := true, recurses := true, apart := false, narrowed := true }
def PageNoneUptoSaid : Prop := pageNoneUptoRow.holds Try.pinned (OpenSpec.upto pageNoneSpec)

/-- 'horologelaw11.PageDisks', WHERE WHAT IT READS IS OF BULK AT MOST 1048576: true; the input reads as it did. -/
def pageDisksUptoRow : OpenClaim := { program := "ytmofbgcanehdoaa", sum := "82acbfcc1d85f641a25bc60c0965c28f092939a7a6df95472c0f3f311e07baf3", func := "horologe/horologelaw11.PageDisks", spec := "pageDisks", unfollowed := true, recurses := true, apart := false, narrowed := true }
def PageDisksUptoSaid : Prop := pageDisksUptoRow.holds Try.pinned (OpenSpec.upto pageDisksSpec)

end Rows
end Go.Proofs.Ytmofbgcanehdoaa
