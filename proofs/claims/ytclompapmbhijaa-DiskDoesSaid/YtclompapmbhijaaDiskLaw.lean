/- what the statements of layer 10 share: both are read alike. -/
import Derived.Test.YtclompapmbhijaaDiskMade
namespace Go.Proofs.Ytclompapmbhijaa.Dk
open Go.RowKit
theorem Rel.read {n : Nat} {d : D} {x : X} (h : Rel n d x) (i : Int) : (⟨(d.readF n i).1.toArray⟩ : ByteArray) = (x.readF n i).1 ∧ (d.readF n i).2 = (x.readF n i).2 := by
  unfold D.readF X.readF
  rw [h.at]
  cases hd : x.down
  · simp only [Bool.false_eq_true, if_false]
    by_cases hi : 0 ≤ i ∧ i < n
    · simp only [if_pos hi, if_true]
      refine ⟨?_, trivial⟩
      rw [h.now i.toNat (by omega)]
    · simp only [if_neg hi]
      exact ⟨rfl, rfl⟩
  · simp only [if_true]
    exact ⟨rfl, rfl⟩
theorem quietS {P : Program} {f : FuncId} {args : Array Value} {w : World} {n : Nat} {v : Value} (h : Calls P f args (w.drewN n) fun e w' => e = .returned v ∧ w.drewN n = w') : Calls P f args (w.drewN n) fun e w'' => e = .returned v ∧ ∃ m, w'' = w.drewN m := h.mono fun _ _ ⟨he, hm⟩ => ⟨he, n, hm.symm⟩
end Go.Proofs.Ytclompapmbhijaa.Dk
