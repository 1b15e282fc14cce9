/-
  No cell of these rows narrows 'for every input' (looked for: loops, veiled, ifaces, maps, wideKeys, modest, calm, conditions, laid).
  DERIVED. THE GIVEN ROWS OF THIS SEAT. 10 by the template 'for every input the law returns true; each argument reads behind the call as it read before'; 0 by the template 'total and deterministic' (their statements: YtbelcgjbhpjnpaaGreatTotals.lean).
  GIVEN WITH THE SEED: the statements are not yours to turn. If you find one false, say at which input.
  Laid BY PROGRAM, IN A SANDBOX (cutbox-rows.mjs): the forced cells as the released guide's own fill.sh prints them over the translation b1ef90fbb66c99c9… (all of the seat's roots in one cut). By AI agents, Wed Nov 11 2026. No macro, syntax, notation, axiom, sorry.
-/
import Derived.Test.YtbelcgjbhpjnpaaGreatChecked
import GoSem.Claim
import GoSem.ClaimJoined
import GoSem.ClaimMapViews
import Derived.JoinedTies
import Derived.KernelRfl
namespace Go.Proofs.YtbelcgjbhpjnpaaGreat
/- THE CELL 'sum', in the pinned program and in every row, IS THE sha256 OF THE DUMP (.gsa) THAT YtbelcgjbhpjnpaaGreatProg.lean LOADS. Nothing in Lean hashes anything: it is a label: what it is worth is what the hold of that sum in a sandbox is worth. -/
noncomputable def Tryz.pinned : Pinned := { name := "ytbelcgjbhpjnpaagreat", sum := "b1ef90fbb66c99c9fcdfc20f044a7a433c78b00744ca35f1420179d2957f369e", checked := Tryz.checked }
namespace Rows
def none {H : Type} : Left H := { results := [], args := [] }

/-- 'horologelaw14.ShadowDoes': WHATEVER THE INPUT: true; the input reads as it did. -/
def shadowDoesSpec : ChangeSpec := { name := "shadowDoes", fn := fun _ => fun
  | [d1, d2] => { results := [.lit (.bool true)], args := [d1, d2] }
  | _ => none }
def shadowDoesRow : OpenClaim := { program := "ytbelcgjbhpjnpaagreat", sum := "b1ef90fbb66c99c9fcdfc20f044a7a433c78b00744ca35f1420179d2957f369e", func := "horologe/horologelaw14.ShadowDoes", spec := "shadowDoes", unfollowed := true, recurses := true, apart := false }
def ShadowDoesSaid : Prop := shadowDoesRow.holds Tryz.pinned (OpenSpec.ofChange shadowDoesSpec)

/-- ITS FALSE NEIGHBOUR: 'it returns false'. Refute it at one input. -/
def shadowDoesWrong : ChangeSpec := { name := "shadowDoes", fn := fun _ => fun
  | [d1, d2] => { results := [.lit (.bool false)], args := [d1, d2] }
  | _ => none }
def ShadowDoesWrongFalsely : Prop := shadowDoesRow.holds Tryz.pinned (OpenSpec.ofChange shadowDoesWrong)

/-- 'horologelaw14.ShadowCrash': WHATEVER THE INPUT: true; the input reads as it did. -/
def shadowCrashSpec : ChangeSpec := { name := "shadowCrash", fn := fun _ => fun
  | [d] => { results := [.lit (.bool true)], args := [d] }
  | _ => none }
def shadowCrashRow : OpenClaim := { program := "ytbelcgjbhpjnpaagreat", sum := "b1ef90fbb66c99c9fcdfc20f044a7a433c78b00744ca35f1420179d2957f369e", func := "horologe/horologelaw14.ShadowCrash", spec := "shadowCrash", unfollowed := true, recurses := true, apart := false }
def ShadowCrashSaid : Prop := shadowCrashRow.holds Tryz.pinned (OpenSpec.ofChange shadowCrashSpec)

/-- ITS FALSE NEIGHBOUR: 'it returns false'. Refute it at one input. -/
def shadowCrashWrong : ChangeSpec := { name := "shadowCrash", fn := fun _ => fun
  | [d] => { results := [.lit (.bool false)], args := [d] }
  | _ => none }
def ShadowCrashWrongFalsely : Prop := shadowCrashRow.holds Tryz.pinned (OpenSpec.ofChange shadowCrashWrong)

/-- 'horologelaw14.ShadowOnce': WHATEVER THE INPUT: true; the input reads as it did. -/
def shadowOnceSpec : ChangeSpec := { name := "shadowOnce", fn := fun _ => fun
  | [d] => { results := [.lit (.bool true)], args := [d] }
  | _ => none }
def shadowOnceRow : OpenClaim := { program := "ytbelcgjbhpjnpaagreat", sum := "b1ef90fbb66c99c9fcdfc20f044a7a433c78b00744ca35f1420179d2957f369e", func := "horologe/horologelaw14.ShadowOnce", spec := "shadowOnce", unfollowed := true, recurses := true, apart := false }
def ShadowOnceSaid : Prop := shadowOnceRow.holds Tryz.pinned (OpenSpec.ofChange shadowOnceSpec)

/-- ITS FALSE NEIGHBOUR: 'it returns false'. Refute it at one input. -/
def shadowOnceWrong : ChangeSpec := { name := "shadowOnce", fn := fun _ => fun
  | [d] => { results := [.lit (.bool false)], args := [d] }
  | _ => none }
def ShadowOnceWrongFalsely : Prop := shadowOnceRow.holds Tryz.pinned (OpenSpec.ofChange shadowOnceWrong)

/-- 'horologelaw14.ShadowNone': WHATEVER THE INPUT: true; the input reads as it did. -/
def shadowNoneSpec : ChangeSpec := { name := "shadowNone", fn := fun _ => fun
  | [d] => { results := [.lit (.bool true)], args := [d] }
  | _ => none }
def shadowNoneRow : OpenClaim := { program := "ytbelcgjbhpjnpaagreat", sum := "b1ef90fbb66c99c9fcdfc20f044a7a433c78b00744ca35f1420179d2957f369e", func := "horologe/horologelaw14.ShadowNone", spec := "shadowNone", unfollowed := true, recurses := true, apart := false }
def ShadowNoneSaid : Prop := shadowNoneRow.holds Tryz.pinned (OpenSpec.ofChange shadowNoneSpec)

/-- ITS FALSE NEIGHBOUR: 'it returns false'. Refute it at one input. -/
def shadowNoneWrong : ChangeSpec := { name := "shadowNone", fn := fun _ => fun
  | [d] => { results := [.lit (.bool false)], args := [d] }
  | _ => none }
def ShadowNoneWrongFalsely : Prop := shadowNoneRow.holds Tryz.pinned (OpenSpec.ofChange shadowNoneWrong)

/-- 'horologelaw14.ShadowImages': WHATEVER THE INPUT: true; the input reads as it did. -/
def shadowImagesSpec : ChangeSpec := { name := "shadowImages", fn := fun _ => fun
  | [d] => { results := [.lit (.bool true)], args := [d] }
  | _ => none }
def shadowImagesRow : OpenClaim := { program := "ytbelcgjbhpjnpaagreat", sum := "b1ef90fbb66c99c9fcdfc20f044a7a433c78b00744ca35f1420179d2957f369e", func := "horologe/horologelaw14.ShadowImages", spec := "shadowImages", unfollowed := true, recurses := true, apart := false }
def ShadowImagesSaid : Prop := shadowImagesRow.holds Tryz.pinned (OpenSpec.ofChange shadowImagesSpec)

/-- ITS FALSE NEIGHBOUR: 'it returns false'. Refute it at one input. -/
def shadowImagesWrong : ChangeSpec := { name := "shadowImages", fn := fun _ => fun
  | [d] => { results := [.lit (.bool false)], args := [d] }
  | _ => none }
def ShadowImagesWrongFalsely : Prop := shadowImagesRow.holds Tryz.pinned (OpenSpec.ofChange shadowImagesWrong)

/-- 'horologelaw15.PoolOne': WHATEVER THE INPUT: true; the input reads as it did. -/
def poolOneSpec : ChangeSpec := { name := "poolOne", fn := fun _ => fun
  | [d1, d2, d3] => { results := [.lit (.bool true)], args := [d1, d2, d3] }
  | _ => none }
def poolOneRow : OpenClaim := { program := "ytbelcgjbhpjnpaagreat", sum := "b1ef90fbb66c99c9fcdfc20f044a7a433c78b00744ca35f1420179d2957f369e", func := "horologe/horologelaw15.PoolOne", spec := "poolOne", unfollowed := true, recurses := true, apart := false }
def PoolOneSaid : Prop := poolOneRow.holds Tryz.pinned (OpenSpec.ofChange poolOneSpec)

/-- ITS FALSE NEIGHBOUR: 'it returns false'. Refute it at one input. -/
def poolOneWrong : ChangeSpec := { name := "poolOne", fn := fun _ => fun
  | [d1, d2, d3] => { results := [.lit (.bool false)], args := [d1, d2, d3] }
  | _ => none }
def PoolOneWrongFalsely : Prop := poolOneRow.holds Tryz.pinned (OpenSpec.ofChange poolOneWrong)

/-- 'horologelaw15.PoolFew': WHATEVER THE INPUT: true; the input reads as it did. -/
def poolFewSpec : ChangeSpec := { name := "poolFew", fn := fun _ => fun
  | [d1, d2] => { results := [.lit (.bool true)], args := [d1, d2] }
  | _ => none }
def poolFewRow : OpenClaim := { program := "ytbelcgjbhpjnpaagreat", sum := "b1ef90fbb66c99c9fcdfc20f044a7a433c78b00744ca35f1420179d2957f369e", func := "horologe/horologelaw15.PoolFew", spec := "poolFew", unfollowed := true, recurses := true, apart := false }
def PoolFewSaid : Prop := poolFewRow.holds Tryz.pinned (OpenSpec.ofChange poolFewSpec)

/-- ITS FALSE NEIGHBOUR: 'it returns false'. Refute it at one input. -/
def poolFewWrong : ChangeSpec := { name := "poolFew", fn := fun _ => fun
  | [d1, d2] => { results := [.lit (.bool false)], args := [d1, d2] }
  | _ => none }
def PoolFewWrongFalsely : Prop := poolFewRow.holds Tryz.pinned (OpenSpec.ofChange poolFewWrong)

/-- 'horologelaw15.PoolAborts': WHATEVER THE INPUT: true; the input reads as it did. -/
def poolAbortsSpec : ChangeSpec := { name := "poolAborts", fn := fun _ => fun
  | [d1, d2] => { results := [.lit (.bool true)], args := [d1, d2] }
  | _ => none }
def poolAbortsRow : OpenClaim := { program := "ytbelcgjbhpjnpaagreat", sum := "b1ef90fbb66c99c9fcdfc20f044a7a433c78b00744ca35f1420179d2957f369e", func := "horologe/horologelaw15.PoolAborts", spec := "poolAborts", unfollowed := true, recurses := true, apart := false }
def PoolAbortsSaid : Prop := poolAbortsRow.holds Tryz.pinned (OpenSpec.ofChange poolAbortsSpec)

/-- ITS FALSE NEIGHBOUR: 'it returns false'. Refute it at one input. -/
def poolAbortsWrong : ChangeSpec := { name := "poolAborts", fn := fun _ => fun
  | [d1, d2] => { results := [.lit (.bool false)], args := [d1, d2] }
  | _ => none }
def PoolAbortsWrongFalsely : Prop := poolAbortsRow.holds Tryz.pinned (OpenSpec.ofChange poolAbortsWrong)

/-- 'horologelaw15.PoolNone': WHATEVER THE INPUT: true; the input reads as it did. -/
def poolNoneSpec : ChangeSpec := { name := "poolNone", fn := fun _ => fun
  | [d1, d2] => { results := [.lit (.bool true)], args := [d1, d2] }
  | _ => none }
def poolNoneRow : OpenClaim := { program := "ytbelcgjbhpjnpaagreat", sum := "b1ef90fbb66c99c9fcdfc20f044a7a433c78b00744ca35f1420179d2957f369e", func := "horologe/horologelaw15.PoolNone", spec := "poolNone", unfollowed := true, recurses := true, apart := false }
def PoolNoneSaid : Prop := poolNoneRow.holds Tryz.pinned (OpenSpec.ofChange poolNoneSpec)

/-- ITS FALSE NEIGHBOUR: 'it returns false'. Refute it at one input. -/
def poolNoneWrong : ChangeSpec := { name := "poolNone", fn := fun _ => fun
  | [d1, d2] => { results := [.lit (.bool false)], args := [d1, d2] }
  | _ => none }
def PoolNoneWrongFalsely : Prop := poolNoneRow.holds Tryz.pinned (OpenSpec.ofChange poolNoneWrong)

/-- 'horologelaw16.ChainDrops': WHATEVER THE INPUT: true; the input reads as it did. -/
def chainDropsSpec : ChangeSpec := { name := "chainDrops", fn := fun _ => fun
  | [d1, d2] => { results := [.lit (.bool true)], args := [d1, d2] }
  | _ => none }
def chainDropsRow : OpenClaim := { program := "ytbelcgjbhpjnpaagreat", sum := "b1ef90fbb66c99c9fcdfc20f044a7a433c78b00744ca35f1420179d2957f369e", func := "horologe/horologelaw16.ChainDrops", spec := "chainDrops", unfollowed := true, recurses := true, apart := false }
def ChainDropsSaid : Prop := chainDropsRow.holds Tryz.pinned (OpenSpec.ofChange chainDropsSpec)

/-- ITS FALSE NEIGHBOUR: 'it returns false'. Refute it at one input. -/
def chainDropsWrong : ChangeSpec := { name := "chainDrops", fn := fun _ => fun
  | [d1, d2] => { results := [.lit (.bool false)], args := [d1, d2] }
  | _ => none }
def ChainDropsWrongFalsely : Prop := chainDropsRow.holds Tryz.pinned (OpenSpec.ofChange chainDropsWrong)

/- THE SECOND FORM. 'bulk': how many values and letters a reading holds, each counted each time it is reached (what is shared counts as often as it is met; a slice's spare places count too). A statement '..UptoSaid' is the law's where the arguments, and the package variables that the reading takes, are together of bulk at most 1048576: NARROWER than '..Said'. Prove '..Said' where nothing that the law and all that it calls make is longer than what came in: it says more and counts as full. Else prove '..UptoSaid'. A law counts once. -/
mutual
def uptoBulk {H : Type} : DataW H → Nat
  | .lit (.string bytes) => bytes.length + 1
  | .lit _ => 1
  | .nil => 1
  | .ptr d => uptoBulk d + 1
  | .slice elems spare => uptoBulkAll elems + uptoBulkAll spare + 1
  | .agg parts => uptoBulkAll parts + 1
  | .iface _ d => uptoBulk d + 1
  | .map entries => uptoBulkEntries entries + 1
  | .held _ => 1
def uptoBulkAll {H : Type} : List (DataW H) → Nat
  | [] => 0
  | d :: r => uptoBulk d + uptoBulkAll r
def uptoBulkEntries {H : Type} : List (Lit × DataW H) → Nat
  | [] => 0
  | x :: r => uptoBulkEntry x + uptoBulkEntries r
def uptoBulkEntry {H : Type} : Lit × DataW H → Nat
  | (.string bytes, d) => bytes.length + uptoBulk d + 1
  | (_, d) => uptoBulk d + 1
 end
def uptoSmall : (H : Type) → List (DataW H) → Bool := fun _ ds => decide (uptoBulkAll ds ≤ 1048576)
def OpenSpec.upto (s : _root_.Go.ChangeSpec) : _root_.Go.OpenSpec := { _root_.Go.OpenSpec.ofChange s with cond := some uptoSmall }

/-- 'horologelaw14.ShadowDoes', WHERE WHAT IT READS IS OF BULK AT MOST 1048576: true; the input reads as it did. -/
def shadowDoesUptoRow : OpenClaim := { program := "ytbelcgjbhpjnpaagreat", sum := "b1ef90fbb66c99c9fcdfc20f044a7a433c78b00744ca35f1420179d2957f369e", func := "horologe/horologelaw14.ShadowDoes", spec := "shadowDoes", unfollowed := true, recurses := true, apart := false, narrowed := true }
def ShadowDoesUptoSaid : Prop := shadowDoesUptoRow.holds Tryz.pinned (OpenSpec.upto shadowDoesSpec)

/-- 'horologelaw14.ShadowCrash', WHERE WHAT IT READS IS OF BULK AT MOST 1048576: true; the input reads as it did. -/
def shadowCrashUptoRow : OpenClaim := { program := "ytbelcgjbhpjnpaagreat", sum := "b1ef90fbb66c99c9fcdfc20f044a7a433c78b00744ca35f1420179d2957f369e", func := "horologe/horologelaw14.ShadowCrash", spec := "shadowCrash", unfollowed := true, recurses := true, apart := false, narrowed := true }
def ShadowCrashUptoSaid : Prop := shadowCrashUptoRow.holds Tryz.pinned (OpenSpec.upto shadowCrashSpec)

/-- 'horologelaw14.ShadowOnce', WHERE WHAT IT READS IS OF BULK AT MOST 1048576: true; the input reads as it did. -/
def shadowOnceUptoRow : OpenClaim := { program := "ytbelcgjbhpjnpaagreat", sum := "b1ef90fbb66c99c9fcdfc20f044a7a433c78b00744ca35f1420179d2957f369e", func := "horologe/horologelaw14.ShadowOnce", spec := "shadowOnce", unfollowed := true, recurses := true, apart := false, narrowed := true }
def ShadowOnceUptoSaid : Prop := shadowOnceUptoRow.holds Tryz.pinned (OpenSpec.upto shadowOnceSpec)

/-- 'horologelaw14.ShadowNone', WHERE WHAT IT READS IS OF BULK AT MOST 1048576: true; the input reads as it did. -/
def shadowNoneUptoRow : OpenClaim := { program := "ytbelcgjbhpjnpaagreat", sum := "b1ef90fbb66c99c9fcdfc20f044a7a433c78b00744ca35f1420179d2957f369e", func := "horologe/horologelaw14.ShadowNone", spec := "shadowNone", unfollowed := true, recurses := true, apart := false, narrowed := true }
def ShadowNoneUptoSaid : Prop := shadowNoneUptoRow.holds Tryz.pinned (OpenSpec.upto shadowNoneSpec)

/-- 'horologelaw14.ShadowImages', WHERE WHAT IT READS IS OF BULK AT MOST 1048576: true; the input reads as it did. -/
def shadowImagesUptoRow : OpenClaim := { program := "ytbelcgjbhpjnpaagreat", sum := "b1ef90fbb66c99c9fcdfc20f044a7a433c78b00744ca35f1420179d2957f369e", func := "horologe/horologelaw14.ShadowImages", spec := "shadowImages", unfollowed := true, recurses := true, apart := false, narrowed := true }
def ShadowImagesUptoSaid : Prop := shadowImagesUptoRow.holds Tryz.pinned (OpenSpec.upto shadowImagesSpec)

/-- 'horologelaw15.PoolOne', WHERE WHAT IT READS IS OF BULK AT MOST 1048576: true; the input reads as it did. -/
def poolOneUptoRow : OpenClaim := { program := "ytbelcgjbhpjnpaagreat", sum := "b1ef90fbb66c99c9fcdfc20f044a7a433c78b00744ca35f1420179d2957f369e", func := "horologe/horologelaw15.PoolOne", spec := "poolOne", unfollowed := true, recurses := true, apart := false, narrowed := true }
def PoolOneUptoSaid : Prop := poolOneUptoRow.holds Tryz.pinned (OpenSpec.upto poolOneSpec)

/-- 'horologelaw15.PoolFew', WHERE WHAT IT READS IS OF BULK AT MOST 1048576: true; the input reads as it did. -/
def poolFewUptoRow : OpenClaim := { program := "ytbelcgjbhpjnpaagreat", sum := "b1ef90fbb66c99c9fcdfc20f044a7a433c78b00744ca35f1420179d2957f369e", func := "horologe/horologelaw15.PoolFew", spec := "poolFew", unfollowed := true, recurses := true, apart := false, narrowed := true }
def PoolFewUptoSaid : Prop := poolFewUptoRow.holds Tryz.pinned (OpenSpec.upto poolFewSpec)

/-- 'horologelaw15.PoolAborts', WHERE WHAT IT READS IS OF BULK AT MOST 1048576: true; the input reads as it did. -/
def poolAbortsUptoRow : OpenClaim := { program := "ytbelcgjbhpjnpaagreat", sum := "b1ef90fbb66c99c9fcdfc20f044a7a433c78b00744ca35f1420179d2957f369e", func := "horologe/horologelaw15.PoolAborts", spec := "poolAborts", unfollowed := true, recurses := true, apart := false, narrowed := true }
def PoolAbortsUptoSaid : Prop := poolAbortsUptoRow.holds Tryz.pinned (OpenSpec.upto poolAbortsSpec)

/-- 'horologelaw15.PoolNone', WHERE WHAT IT READS IS OF BULK AT MOST 1048576: true; the input reads as it did. -/
def poolNoneUptoRow : OpenClaim := { program := "ytbelcgjbhpjnpaagreat", sum := "b1ef90fbb66c99c9fcdfc20f044a7a433c78b00744ca35f1420179d2957f369e", func := "horologe/horologelaw15.PoolNone", spec := "poolNone", unfollowed := true, recurses := true, apart := false, narrowed := true }
def PoolNoneUptoSaid : Prop := poolNoneUptoRow.holds Tryz.pinned (OpenSpec.upto poolNoneSpec)

/-- 'horologelaw16.ChainDrops', WHERE WHAT IT READS IS OF BULK AT MOST 1048576: true; the input reads as it did. -/
def chainDropsUptoRow : OpenClaim := { program := "ytbelcgjbhpjnpaagreat", sum := "b1ef90fbb66c99c9fcdfc20f044a7a433c78b00744ca35f1420179d2957f369e", func := "horologe/horologelaw16.ChainDrops", spec := "chainDrops", unfollowed := true, recurses := true, apart := false, narrowed := true }
def ChainDropsUptoSaid : Prop := chainDropsUptoRow.holds Tryz.pinned (OpenSpec.upto chainDropsSpec)

end Rows
end Go.Proofs.YtbelcgjbhpjnpaaGreat
