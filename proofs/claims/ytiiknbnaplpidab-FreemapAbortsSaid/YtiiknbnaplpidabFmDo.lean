/- both maps side by side: do. -/
import Derived.Test.YtiiknbnaplpidabFmRef2
namespace Go.Proofs.Ytiiknbnaplpidab.Fm
open Go.RowKit

/-- the map and the reference's, with one content -/
structure Both (w : World) (b g b' : Nat) (v : Value) (l : List Int) : Prop where
  m : MapAt w b g l
  r : RefAt w b' v l
  ap : g ∉ ownB v
def BothTo (w w' : World) (b g b' : Nat) (l : List Int) : Prop := ∃ v', Both w' b g b' v' l ∧ Only [g, b'] w w'
section
variable {w w' w'' : World} {b g b' : Nat} {v : Value} {l l' : List Int} {S : List Nat}
theorem Both.bb (h : Both w b g b' v l) : b ≠ b' := h.m.hb.ne_ h.r.hb (by decide)
theorem Both.gb (h : Both w b g b' v l) : g ≠ b' := h.m.hg.ne_ h.r.hb (by decide)
theorem Both.bv (h : Both w b g b' v l) : b ∉ ownB v := by
  rcases h.r.hs.2 with ⟨rfl, _⟩ | ⟨x, cap, rest, rfl, B, _⟩
  · simp [ownB]
  · intro hx; simp [ownB] at hx; subst hx; exact B.ne_ h.m.hb (by decide) rfl
theorem Both.only (h : Both w b g b' v l) (ho : Only S w w') (h1 : b ∉ S) (h2 : g ∉ S) (h3 : b' ∉ S) (h4 : ∀ x ∈ ownB v, x ∉ S) : Both w' b g b' v l :=
  ⟨h.m.only ho h1 h2, h.r.only ho h3 h4, h.ap⟩
theorem Both.below (h : Both w b g b' v l) (hb : Below w.heap.size w w') : Both w' b g b' v l := h.only (S := []) (.of_below hb) (by simp) (by simp) (by simp) (by simp)
theorem Both.drewN (h : Both w b g b' v l) (n : Nat) : Both (w.drewN n) b g b' v l := ⟨h.m.drewN n, h.r.drewN n, h.ap⟩
theorem Both.drew (h : Both w b g b' v l) : Both w.drew b g b' v l := ⟨h.m.drew, h.r.drewN 1, h.ap⟩
/-- behind a call of the map: the reference's is as it was -/
theorem Both.ref (h : Both w b g b' v l) (ho : Only [g] w w') : RefAt w' b' v l :=
  h.r.only ho (by simp; exact fun e => h.gb e.symm) (fun x hx => by simp; exact fun e => h.ap (e ▸ hx))
/-- behind a call of each -/
theorem Both.to (h : Both w b g b' v l) (ho : Only [g] w w') (m1 : MapAt w' b g l') (R : RefTo w' w'' b' v l') : BothTo w w'' b g b' l' := by
  obtain ⟨v', r, o2, f⟩ := R
  refine ⟨v', ⟨m1.only o2 (by simp; exact h.bb) (by simp; exact h.gb), r, ?_⟩, ?_⟩
  · intro hg
    rcases f g hg with h1 | h1
    · exact h.ap h1
    · have := m1.hg.lt; omega
  · exact (ho.mono (S' := [g, b']) (by simp)).trans_of o2 (by simp)
theorem Both.to' (h : Both w b g b' v l) (R : RefTo w w' b' v l') (f : MapAt w' b g l → Only [g] w' w'' ∧ MapAt w'' b g l') : BothTo w w'' b g b' l' := by
  obtain ⟨v', r, o2, fr⟩ := R
  obtain ⟨o3, m3⟩ := f (h.m.only o2 (by simp; exact h.bb) (by simp; exact h.gb))
  have hap : g ∉ ownB v' := by
    intro hg
    rcases fr g hg with h1 | h1
    · exact h.ap h1
    · have := h.m.hg.lt; omega
  refine ⟨v', ⟨m3, r.only o3 (by simp; exact fun e => h.gb e.symm) (fun x hx => by simp; exact fun e => hap (e ▸ hx)), hap⟩, ?_⟩
  exact (o2.mono (S' := [g, b']) (by simp)).trans_of o3 (by simp)
theorem BothTo.from_ (hb : Below w.heap.size w w') (h : BothTo w' w'' b g b' l') : BothTo w w'' b g b' l' := by
  obtain ⟨v, hb', o⟩ := h
  exact ⟨v, hb', (Only.of_below hb).trans o⟩
theorem BothTo.trans (h : BothTo w w' b g b' l) (f : ∀ v, Both w' b g b' v l → BothTo w' w'' b g b' l') : BothTo w w'' b g b' l' := by
  obtain ⟨v, hb, o⟩ := h
  obtain ⟨v', hb', o'⟩ := f v hb
  exact ⟨v', hb', o.trans o'⟩
end
def doF (l : List Int) (kind i : Int) : List Int :=
  if kind = 0 then (useF l i).1 else if kind = 4 then (leaveF l i).1 else if kind = 5 then (leaveF l i).1 else if kind = 6 then turnF 0 1 l else if kind = 7 then turnF 1 0 l else (takeF l).1
def actV (kind i : Int) : Value := .agg #[.int .i64 kind, .int .i64 i]

set_option maxRecDepth 100000 in
set_option maxHeartbeats 2000000 in
theorem do_use {w : World} {b g b' : Nat} {v : Value} {l : List Int} (h : Both w b g b' v l) (i : Int) :
    Calls Try.prog 22 #[mp b, mp b', actV 0 i] w fun e w' => e = .returned (.bool true) ∧ BothTo w w' b g b' (useF l i).1 := by
  have O0 := (Below.refl w.heap.size w).alloc (Nat.le_refl _) (.cells #[.int .i64 0, .int .i64 i] 32)
  have h0 := Lib.hid (h.below O0)
  have B0 := Blk.new w 32 #[.int .i64 0, .int .i64 i]
  have hbx : w.heap.size ≠ g := fun e => by have := h.m.hg.lt; omega
  unfold mp actV at *
  go_enter Try.func22, Try.ntmps22
  go_wp2_with fail
  generalize hW : w.alloc (.cells #[.int .i64 0, .int .i64 i] 32) = W at *
  clear hW
  have c1 := B0.cell_some (i := 1) rfl
  have K1 := Lib.hid (use_any (h0.out.drew).m i)
  have B1 := B0.drew
  unfold mp at K1
  go_region_with (first | (go_at_call 20; refine K1.out.mono ?_; rintro e w1 ⟨rfl, m1, o1⟩; have c1' := (B1.only o1 (by simpa using hbx)).cell_some (i := 1) rfl; have R1 := Both.ref h0.out.drew o1) | (go_at_call 27; refine (ruse_any R1 i).mono ?_; rintro e w2 ⟨rfl, R2⟩))
  all_goals
    go_wp2_with fail
    go_ret
    exact ⟨rfl, (Both.to h0.out.drew o1 m1 R2).from_ O0.drew⟩
set_option maxRecDepth 100000 in
set_option maxHeartbeats 2000000 in
theorem do_leave4 {w : World} {b g b' : Nat} {v : Value} {l : List Int} (h : Both w b g b' v l) (i : Int) :
    Calls Try.prog 22 #[mp b, mp b', actV 4 i] w fun e w' => e = .returned (.bool true) ∧ BothTo w w' b g b' (leaveF l i).1 := by
  have O0 := (Below.refl w.heap.size w).alloc (Nat.le_refl _) (.cells #[.int .i64 4, .int .i64 i] 32)
  have h0 := Lib.hid (h.below O0)
  have B0 := Blk.new w 32 #[.int .i64 4, .int .i64 i]
  have hbx : w.heap.size ≠ g := fun e => by have := h.m.hg.lt; omega
  unfold mp actV at *
  go_enter Try.func22, Try.ntmps22
  go_wp2_with fail
  generalize hW : w.alloc (.cells #[.int .i64 4, .int .i64 i] 32) = W at *
  clear hW
  have c1 := B0.cell_some (i := 1) rfl
  have K1 := Lib.hid (leave_any (h0.out.drew).m i)
  have B1 := B0.drew
  unfold mp at K1
  go_region_with (first | (go_at_call 12; refine K1.out.mono ?_; rintro e w1 ⟨rfl, m1, o1⟩; have c1' := (B1.only o1 (by simpa using hbx)).cell_some (i := 1) rfl; have R1 := Both.ref h0.out.drew o1) | (go_at_call 28; refine (rleave_any R1 i).mono ?_; rintro e w2 ⟨rfl, R2⟩))
  all_goals
    go_wp2_with fail
    go_ret
    exact ⟨rfl, (Both.to h0.out.drew o1 m1 R2).from_ O0.drew⟩
set_option maxRecDepth 100000 in
set_option maxHeartbeats 2000000 in
theorem do_leave5 {w : World} {b g b' : Nat} {v : Value} {l : List Int} (h : Both w b g b' v l) (i : Int) :
    Calls Try.prog 22 #[mp b, mp b', actV 5 i] w fun e w' => e = .returned (.bool true) ∧ BothTo w w' b g b' (leaveF l i).1 := by
  have O0 := (Below.refl w.heap.size w).alloc (Nat.le_refl _) (.cells #[.int .i64 5, .int .i64 i] 32)
  have h0 := Lib.hid (h.below O0)
  have B0 := Blk.new w 32 #[.int .i64 5, .int .i64 i]
  have hbx : w.heap.size ≠ g := fun e => by have := h.m.hg.lt; omega
  unfold mp actV at *
  go_enter Try.func22, Try.ntmps22
  go_wp2_with fail
  generalize hW : w.alloc (.cells #[.int .i64 5, .int .i64 i] 32) = W at *
  clear hW
  have c1 := B0.cell_some (i := 1) rfl
  have K1 := Lib.hid (leave_any (h0.out.drew).m i)
  have B1 := B0.drew
  unfold mp at K1
  go_region_with (first | (go_at_call 12; refine K1.out.mono ?_; rintro e w1 ⟨rfl, m1, o1⟩; have c1' := (B1.only o1 (by simpa using hbx)).cell_some (i := 1) rfl; have R1 := Both.ref h0.out.drew o1) | (go_at_call 28; refine (rleave_any R1 i).mono ?_; rintro e w2 ⟨rfl, R2⟩))
  all_goals
    go_wp2_with fail
    go_ret
    exact ⟨rfl, (Both.to h0.out.drew o1 m1 R2).from_ O0.drew⟩
end Go.Proofs.Ytiiknbnaplpidab.Fm
