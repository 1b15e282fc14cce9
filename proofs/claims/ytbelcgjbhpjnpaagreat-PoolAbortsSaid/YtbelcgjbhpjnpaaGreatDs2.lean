/- calls of the pool beside the document's, the others. -/
import Derived.Test.YtbelcgjbhpjnpaaGreatDs
import Derived.Test.YtbelcgjbhpjnpaaGreatDo
set_option linter.all false
set_option linter.unusedVariables false
set_option linter.unusedSimpArgs false
namespace Go.Proofs.YtbelcgjbhpjnpaaGreat.Sh
open Go.RowKit Pk Dk Pg
section
variable {w0 w W : World} {pq xq rs n K : Nat} {qp qx : QS}
theorem PX.get (S : PX w0 w pq xq rs n qp qx K) (hK : K ≤ 800000) (l : Int) :
  Calls Tryz.prog 46 #[pp pq, .int .i64 l] w fun e W => e = .returned (.tuple #[.string (qp.getF l).2.1, .int .i64 (qp.getF l).2.2]) ∧ PX w0 W pq xq rs n (qp.getF l).1 qx (K + 1) :=
 S.call (by omega) (S.hp.get l) (fun y e Z => by rw [← e]; exact (zget_any Z S.hp (by omega) l).mono fun e w' h => ⟨h.1, .self h.2.1 h.2.2⟩)
theorem PX.put (S : PX w0 w pq xq rs n qp qx K) (hK : K ≤ 800000) (l : Int) (b : ByteArray) :
  Calls Tryz.prog 45 #[pp pq, .int .i64 l, .string b] w fun e W => e = .returned (.int .i64 (qp.putF l b).2) ∧ PX w0 W pq xq rs n (qp.putF l b).1 qx (K + 1) :=
 S.call (by omega) (S.hp.put_ l b) (fun y e Z => by rw [← e]; exact (zput_any Z S.hp (by omega) l b).mono fun e w' h => ⟨h.1, .self h.2.1 h.2.2⟩)
theorem PX.commit (S : PX w0 w pq xq rs n qp qx K) (hK : K ≤ 800000) :
  Calls Tryz.prog 48 #[pp pq] w fun e W => e = .returned (.int .i64 qp.commitF.2) ∧ PX w0 W pq xq rs n qp.commitF.1 qx (K + 40) :=
 S.call (by omega) (S.hp.commit (by omega)) (fun y e Z => by rw [← e]; exact zpcommit_any Z S.hp.f (by omega))
theorem PX.abort (S : PX w0 w pq xq rs n qp qx K) :
  Calls Tryz.prog 50 #[pp pq] w fun e W => e = .returned (.bool true) ∧ PX w0 W pq xq rs n qp.abortF qx K :=
 S.call (by omega) S.hp.abort (fun y e Z => by rw [← e]; exact zpabort_any Z)
theorem PX.xcommit (S : PX w0 w pq xq rs n qp qx K) (hK : K ≤ 800000) :
  Calls Tryz.prog 49 #[rp xq] w fun e W => e = .returned (.int .i64 qx.commitF.2) ∧ PX w0 W pq xq rs n qp qx.commitF.1 (K + 40) :=
 (Sh.xcommit S.x S.hx (by omega)).mono fun e W ⟨r, x, o⟩ => ⟨r, S.doc (by omega) (S.hx.commit (by omega)) x o⟩
theorem PX.count (S : PX w0 w pq xq rs n qp qx K) :
  Calls Tryz.prog 51 #[pp pq] w fun e W => e = .returned (.tuple #[.int .i64 (qp.l.length : Nat), .int .i64 ((pgL qp.l).length : Nat), .int .i64 (qp.heldN : Nat)]) ∧ PX w0 W pq xq rs n qp qx K := by
 obtain ⟨y, rfl, ⟨c, A, z⟩, fr⟩ := S.p
 exact (pcount_any A).mono fun e W ⟨r, hb⟩ => ⟨r, S.below hb⟩
end
end Go.Proofs.YtbelcgjbhpjnpaaGreat.Sh
