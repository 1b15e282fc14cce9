/- what the statements of layer 10 share: both are read alike. -/
import Derived.Test.YtclompapmbhijaaDiskMade
namespace Go.Proofs.Ytclompapmbhijaa.Dk
open Go.RowKit
theorem Rel.read {n : Nat} {d : D} {x : X} (h : Rel n d x) (i : Int) : (⟨(d.readF n i).1.toArray⟩ : ByteArray) = (x.readF n i).1 ∧ (d.readF n i).2 = (x.readF n i).2 := by
  unfold D.readF X.readF
  rw [h.at]
  cases hd : x.down
  · simp only [Bool.false_eq_true, if_false]
    by_cases hi : 0 ≤ i ∧ i < n
    · simp only [if_pos hi, if_true]
      refine ⟨?_, trivial⟩
      rw [h.now i.toNat (by omega)]
    · simp only [if_neg hi]
      exact ⟨rfl, rfl⟩
  · simp only [if_true]
    exact ⟨rfl, rfl⟩
theorem quietS {P : Program} {f : FuncId} {args : Array Value} {w : World} {n : Nat} {v : Value} (h : Calls P f args (w.drewN n) fun e w' => e = .returned v ∧ w.drewN n = w') : Calls P f args (w.drewN n) fun e w'' => e = .returned v ∧ ∃ m, w'' = w.drewN m := h.mono fun _ _ ⟨he, hm⟩ => ⟨he, n, hm.symm⟩
theorem X.count_now (x : X) (k : Nat) : x.countF.1.nowF k = x.nowF k := by
  unfold X.countF
  split
  · rfl
  · split <;> rfl
theorem X.write_now {x : X} {n : Nat} (h : x.Ok n) (i : Int) (s : ByteArray) (hd : (x.writeF n i s).1.down = false) (k : Nat) (hk : k < n) (e : (k : Int) = i) : (x.writeF n i s).1.nowF k = fillB s := by
  subst e
  have hx : x.down = false := by
    cases hx : x.down
    · rfl
    · have e1 : x.writeF n k s = (x, 13) := by unfold X.writeF; rw [if_pos hx]
      rw [e1] at hd
      exact hx.symm.trans hd
  have e1 : x.writeF n k s = (x.putF k s).countF := by
    unfold X.writeF
    rw [if_neg (by simp [hx]), if_pos ⟨by omega, by omega⟩, Int.toNat_natCast]
  rw [e1, X.count_now, X.now_new (by rw [X.put_is _ _ _ _ (by rw [h.is]; exact hk), if_pos rfl])]
  show (x.new.set k (fillB s)).getD k .empty = _
  rw [getD_setS _ _ _ _ (by rw [h.new]; exact hk), if_pos rfl]
end Go.Proofs.Ytclompapmbhijaa.Dk
