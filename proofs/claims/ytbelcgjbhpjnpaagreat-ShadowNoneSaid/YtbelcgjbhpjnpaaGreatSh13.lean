/- pool by its contracts: Let, New, Store. -/
import Derived.Test.YtbelcgjbhpjnpaaGreatSh12
namespace Go.Proofs.YtbelcgjbhpjnpaaGreat.Sh
open Go.RowKit Pk Dk Pg
attribute [local go_sem ↓] Go.wp_at_zero Go.wp_at_succ
def PS.letF (s : PS) (p : Int) : PS × Int := match s.heldF p with
  | none => (s, 16)
  | some (k, f) => ({ s with l := s.l.set k { f with held := f.held - 1 } }, 0)
theorem heldF_some {s : PS} {p : Int} {k : Nat} {f : Fr} (h : s.heldF p = some (k, f)) : s.l[k]? = some f ∧ f.held ≠ 0 ∧ findF s.l p = k := by
  unfold PS.heldF at h
  rcases findF_le s.l p with e | ⟨j, g, e, hf, _, _⟩
  · rw [e, if_pos (by omega)] at h
    cases h
  · rw [e, if_neg (by omega), show ((j : Nat) : Int).toNat = j from by omega, hf] at h
    dsimp only at h
    split at h
    · cases h
    · rename_i hh
      injection h with h
      injection h with h1 h2
      subst h1 h2
      exact ⟨hf, hh, e⟩
/-- a pool behind a call -/
def PostP (w w' : World) (y : Y) (n : Nat) (s' : PS) : Prop := ∃ y', y'.pb = y.pb ∧ y'.fg = y.fg ∧ y'.cp = y.cp ∧ y'.x.b = y.x.b ∧ y'.x.L = y.x.L ∧ AtP w' y' n s' ∧ Only y.fp w w' ∧ ∀ g ∈ y'.fp, g ∈ y.fp ∨ w.heap.size ≤ g
theorem PostP.self {w w' : World} {y : Y} {n : Nat} {s' : PS} (h : AtP w' y n s') (ho : Only y.fp w w') : PostP w w' y n s' := ⟨y, rfl, rfl, rfl, rfl, rfl, h, ho, fun _ hg => .inl hg⟩
theorem PostP.trans {w w1 w2 : World} {y y1 : Y} {n : Nat} {s2 : PS} (e1 : y1.pb = y.pb ∧ y1.fg = y.fg ∧ y1.cp = y.cp ∧ y1.x.b = y.x.b ∧ y1.x.L = y.x.L) (o : Only y.fp w w1) (f : ∀ g ∈ y1.fp, g ∈ y.fp ∨ w.heap.size ≤ g) (p : PostP w1 w2 y1 n s2) : PostP w w2 y n s2 := by
  obtain ⟨y2, a1, a2, a3, a4, a5, A, o2, f2⟩ := p
  refine ⟨y2, a1.trans e1.1, a2.trans e1.2.1, a3.trans e1.2.2.1, a4.trans e1.2.2.2.1, a5.trans e1.2.2.2.2, A, o.trans_of o2 (fun g hg hlt => (f g hg).elim id (fun h => by omega)), fun g hg => ?_⟩
  rcases f2 g hg with h | h
  · exact f g h
  · exact .inr (Nat.le_trans o.size h)
set_option maxRecDepth 100000 in
set_option maxHeartbeats 2000000 in
theorem let_any {w : World} {y : Y} {n : Nat} {s : PS} (h : AtP w y n s) (p : Int) (hb : ∀ f ∈ s.l, -1000 ≤ f.held ∧ f.held ≤ 1000000) :
    Calls Tryz.prog 56 #[pp y.pb, .int .i64 p] w fun e w' => e = .returned (.int .i64 (s.letF p).2) ∧ AtP w' y n (s.letF p).1 ∧ Only y.fp w w' := by
  have KH := Lib.hid (held_any h p)
  have HB := Lib.hid (fun w' (hb : Below w.heap.size w w') => h.below hb)
  obtain ⟨R, hR⟩ : ∃ R, s.letF p = R := ⟨_, rfl⟩
  rw [hR]
  unfold PS.letF at hR
  unfold pp at *
  cases hd : s.heldF p with
  | none =>
    rw [hd] at hR KH
    dsimp only at hR
    subst hR
    unfold heldV at KH
    clear h hd hb
    go_enter Tryz.func56, Tryz.ntmps56
    go_wp2_with fail
    refine KH.out.mono ?_
    rintro e w1 ⟨rfl, hb1⟩
    have O1 := Lib.hid hb1
    clear hb1
    go_wp2_with fail
    go_ret
    exact ⟨by first | rfl | simp, HB.out _ O1.out, .of_below O1.out⟩
  | some r =>
    obtain ⟨k, f⟩ := r
    obtain ⟨hf, hh, _⟩ := heldF_some hd
    rw [hd] at hR KH
    dsimp only at hR
    subst hR
    have hfb := hb f (List.mem_of_getElem? hf)
    have HS := Lib.hid (fun w' (hb : Below w.heap.size w w') => (HB.out w' hb).setF k 2 (by omega) { f with held := f.held - 1 } (.int .i64 (f.held - 1)) hf rfl)
    have HC := Lib.hid (fun w' (hb : Below w.heap.size w w') => ((HB.out w' hb).frs k f hf).2.2.1)
    have m1 : IntKind.i64.wrap (f.held - 1) = f.held - 1 := IntWalk.i64_in _ (by omega)
    unfold heldV at KH
    clear h hd hb hf hfb hh
    generalize f.held = fh at *
    go_enter Tryz.func56, Tryz.ntmps56
    go_wp2_with fail
    refine KH.out.mono ?_
    rintro e w1 ⟨rfl, hb1⟩
    have O1 := Lib.hid hb1
    obtain ⟨z1, A1, o1⟩ := HS.out w1 hb1
    have A1 := Lib.hid A1
    have o1 := Lib.hid o1
    have c1 := HC.out w1 hb1
    clear hb1
    go_wp2_with fail
    go_ret
    exact ⟨by first | rfl | simp, A1.out, (Only.of_below O1.out).trans o1.out⟩
set_option maxRecDepth 100000 in
set_option maxHeartbeats 2000000 in
theorem pmake_any {w : World} {y : Y} {n : Nat} {s : PS} (h : AtP w y n s) (v : ByteArray) (hs : v.size ≤ 9223372036854775807) (hep : 0 ≤ s.c.ep ∧ s.c.ep ≤ 1099511627776) (hc : s.c.d.calls ≤ 999999990) (hr : s.c.d.armed ≤ 9223372036854775807) :
    Calls Tryz.prog 53 #[pp y.pb, .string v] w fun e w' => e = .returned (.tuple #[.int .i64 (s.c.newF n v.data.toList).2.1, .int .i64 (s.c.newF n v.data.toList).2.2]) ∧ PostP w w' y n { s with c := (s.c.newF n v.data.toList).1 } := by
  have KN := Lib.hid (new_any h.hs v hs hep hc hr)
  have HP := Lib.hid (fun w' (p : Post w w' y.x n (s.c.newF n v.data.toList).1) => (show PostP w w' y n { s with c := (s.c.newF n v.data.toList).1 } from h.store p))
  have p0 := h.p0
  generalize (s.c.newF n v.data.toList) = R at *
  clear h hs hep hc hr
  unfold pp sp at *
  go_enter Tryz.func53, Tryz.ntmps53
  go_wp2_with fail
  refine KN.out.mono ?_
  rintro e w1 ⟨rfl, P1⟩
  have P2 := Lib.hid (HP.out w1 P1)
  clear P1
  go_wp2_with fail
  go_ret2
  exact ⟨by first | rfl | simp, P2.out⟩
theorem pstore_any {w : World} {y : Y} {n : Nat} {s : PS} (h : AtP w y n s) :
    Calls Tryz.prog 60 #[pp y.pb] w fun e w' => e = .returned (sp y.x.b) ∧ w = w' := by
  have p0 := h.p0
  clear h
  unfold pp sp at *
  go_enter Tryz.func60, Tryz.ntmps60
  go_wp2_with fail
  go_ret
  exact ⟨by first | rfl | simp, rfl⟩
end Go.Proofs.YtbelcgjbhpjnpaaGreat.Sh
