/- what is put and dropped leaves the store as it was, plainly. -/
import Derived.Test.YtbelcgjbhpjnpaaGreatXd
set_option linter.all false
set_option linter.unusedVariables false
set_option linter.unusedSimpArgs false
namespace Go.Proofs.YtbelcgjbhpjnpaaGreat.Sh
open Go.RowKit Pk Dk Pg
theorem drop_at {a : St} {q : Int} (hq : (a.at q).isSome = true) : (a.dropF q).1.at q = none := by
 obtain ⟨h0, hl⟩ := at_some hq
 have e : a.dropF q = ({ a with now := a.now.set q.toNat none }, 0) := by unfold St.dropF; rw [if_pos hq]
 rw [e]
 unfold St.at
 rw [if_pos h0]
 show ((a.now.set q.toNat none)[q.toNat]?).getD none = none
 rw [List.getElem?_set, if_pos rfl, if_pos hl]
 rfl
theorem walk_none {a : St} {p : Int} (h : a.at p = none) : a.cwalkF p = ([], [], 3) := by
 have r : a.readF p = ([], 3) := by unfold St.readF; rw [h]
 have c : a.readC p = (0, [], 3) := by unfold St.readC; rw [r]; rfl
 unfold St.cwalkF St.walkF
 rw [c]
 rfl
/-- the store behind j puts -/
structure G16 (a : St) (j : Nat) : Prop where
 f : AllFresh a
 l : a.now.length ≤ 5 * j
 r : 60 ≤ a.free + 5 * j
theorem G16.start : G16 (St.start 60) 0 := by
 obtain ⟨h1, h2, h3, _⟩ := start_fresh 60
 exact ⟨h1, by omega, by omega⟩
theorem G16.next {a : St} {j : Nat} (h : G16 a j) : G16 a (j + 1) := ⟨h.f, by have := h.l; omega, by have := h.r; omega⟩
theorem G16.put {a : St} {j : Nat} (h : G16 a j) (hj : j ≤ 8) (v : List UInt8) (hv : v.length ≤ 1024) : ∃ a' p, a.cputF v = (a', p, 0) ∧ G16 a' (j + 1) := by
 obtain ⟨h1, h2, h3⟩ := h
 have hn : (cneedF v.length).toNat ≤ 5 := by unfold cneedF; omega
 obtain ⟨a', p, L, r1, r2, r3, r4, r5, r6, r7, r8, _⟩ := cput_good h1 hv (by omega) (by omega)
 exact ⟨a', p, r1, r5, by omega, by omega⟩
theorem G16.drop {a : St} {j : Nat} (h : G16 a j) (hj : j ≤ 8) (v : List UInt8) (hv : v.length ≤ 1024) : ∃ a' p a2, a.cputF v = (a', p, 0) ∧ a'.cdropF p = (a2, 0) ∧ a2.free = a.free ∧ a2.cwalkF p = ([], [], 3) := by
 obtain ⟨h1, h2, h3⟩ := h
 have hn : 1 ≤ (cneedF v.length).toNat ∧ (cneedF v.length).toNat ≤ 5 := by unfold cneedF; omega
 obtain ⟨a', p, L, r1, r2, r3, r4, r5, r6, r7, r8, r9, r10, _⟩ := cput_good h1 hv (by omega) (by omega)
 obtain ⟨a2, d1, d2, d3, d4, d5, _, d7⟩ := cdrop_good r2 r3 hv r4 r5
 refine ⟨a', p, a2, r1, d1, free_of (d4.trans r9) (d5.trans r10) (by omega), walk_none ?_⟩
 cases L with
 | nil => simp at r3; omega
 | cons q L =>
  have hp : p = q := r2.1
  obtain ⟨n1, n2⟩ := List.nodup_cons.1 r4
  have hs := r2.some
  obtain ⟨c1, c2, c3, c4, c5, c6, c7⟩ := drop_count (hs q (List.mem_cons_self ..)) r5
  obtain ⟨a3, e1, _, _, _, _, _, e7⟩ := dropL_good L (a'.dropF q).1 c3 n2 (fun x hx => by rw [c7 x (fun e => n1 (by rw [← e]; exact hx))]; exact hs x (List.mem_cons_of_mem _ hx))
  have : a3 = a2 := by
   have d1 := d1
   unfold St.cdropF at d1
   rw [cwalk_good r2 r3 hv, if_neg (by simp)] at d1
   unfold St.dropL at d1
   rw [if_neg (by rw [c1]; simp), e1] at d1
   exact (Prod.mk.inj d1).1
  rw [hp, ← this, e7 q n1]
  exact drop_at (hs q (List.mem_cons_self ..))
end Go.Proofs.YtbelcgjbhpjnpaaGreat.Sh
