/- slots: do, and calls that came in. -/
import Derived.Test.YticehnnbjbliaabSlLaw
import Derived.Deep.Slices
import Derived.Deep.Grids
import Derived.Lib.SmallJoins
namespace Go.Proofs.Yticehnnbjbliaab.Sl
open Go.RowKit Go.Deep Go.ChangeShapes Go.WideShapes
attribute [local go_sem ↓] exec_app

theorem quietS {P : Program} {f : FuncId} {args : Array Value} {w : World} {n : Nat} {v : Value} (h : Calls P f args (w.drewN n) fun e w' => e = .returned v ∧ w.drewN n = w') : Calls P f args (w.drewN n) fun e w'' => e = .returned v ∧ ∃ m, w'' = w.drewN m := h.mono fun _ _ ⟨he, hm⟩ => ⟨he, n, hm.symm⟩
/-- a payload and a list, with the same records -/
structure Pair (w : World) (base : Nat) (b : ByteArray) (v : Value) (l : List (List UInt8)) : Prop where
  s : Sound b.data.toList
  r : recs b.data.toList = l
  S : Slc w 9 1 v l.length (strs l)
  F : ∀ g ∈ ownB v, base ≤ g
theorem Pair.below {w w' : World} {base : Nat} {b : ByteArray} {v : Value} {l : List (List UInt8)} (h : Pair w base b v l) (hb : Below w.heap.size w w') : Pair w' base b v l := ⟨h.s, h.r, h.S.below hb, h.F⟩
/-- behind a call: both are alike again -/
def Did (w : World) (base : Nat) (e : Ending) (w' : World) : Prop := ∃ b v l, e = .returned (.tuple #[.string b, v, .bool true]) ∧ Pair w' base b v l ∧ Below w.heap.size w w'
def actV (k i : Int) (r : ByteArray) : Value := .agg #[.int .i64 k, .int .i64 i, .string r]
theorem Put1.pair {w w' : World} {n : Nat} {L : List (List UInt8)} {v : Value} (h : Put1 w n L w' v) (b : ByteArray) (hs : Sound b.data.toList) (hr : recs b.data.toList = L) (hn : L.length = n) {base : Nat} (hb : base ≤ w.heap.size) : Pair w' base b v L :=
  ⟨hs, hr, by rw [hn]; exact h.1, fun g hg => Nat.le_trans hb (h.2.2 g hg)⟩
def room_lt (a : Int) (n : Nat) : Prop := a - 4 < (n : Int)
theorem insG_full' {b : List UInt8} (h : Sound b) (i : Nat) (r : List UInt8) (hr : roomR (recs b) - 4 < (r.length : Int)) (hi : i ≤ (recs b).length) : insG b i r = ([], 11) := by
  rw [recs_length] at hi
  rw [← room_eq h] at hr
  unfold insG
  rw [if_pos ((checkF_ok b).2 h), if_pos ⟨by omega, by omega⟩, if_neg (by omega)]
theorem insG_range {b : List UInt8} (h : Sound b) (i : Int) (r : List UInt8) (hi : ¬ (0 ≤ i ∧ i ≤ ((recs b).length : Int))) : insG b i r = ([], 3) := by
  rw [recs_length] at hi
  unfold insG
  rw [if_pos ((checkF_ok b).2 h), if_neg hi]
end Go.Proofs.Yticehnnbjbliaab.Sl
