/- the law's begun; acts that come in. -/
import Derived.Test.YtbelcgjbhpjnpaaGreatV4
import Derived.Test.YtbelcgjbhpjnpaaGreatW7
import Derived.Test.YtbelcgjbhpjnpaaGreatMa
import Derived.Deep.Grids
import Derived.Deep.Slices
set_option linter.all false
set_option linter.unusedVariables false
set_option linter.unusedSimpArgs false
namespace Go.Proofs.YtbelcgjbhpjnpaaGreat.Sh
open Go.RowKit Pk Dk Pg Go.ChangeShapes Go.WideShapes Go.Deep
attribute [local go_sem ↓] Go.wp_at_zero Go.wp_at_succ
theorem zeros64 : fillF [] = List.replicate 64 0 := by unfold fillF; simp
theorem rooted_start (n : Nat) (h1 : 2 ≤ n) (hn : n ≤ 4096) : Rooted (formC (D.zero n) n).d n 1 0 [] [] ∧ Twin (formC (D.zero n) n).d 0 1 := by
 have z : (D.zero n).down = false ∧ (D.zero n).armed = 0 := ⟨rfl, rfl⟩
 have ok0 := zero_ok n hn
 obtain ⟨w1, w2, w3⟩ := write_fine (d := D.zero n) (n := n) (k := 0) z.1 z.2 (by omega) root1
 have ok1 := ok0.write ((0 : Nat) : Int) root1
 have n1 := write_now ok0 0 (by omega) root1 w1
 obtain ⟨v1, v2, v3⟩ := write_fine (d := ((D.zero n).writeF n ((0 : Nat) : Int) root1).1) (n := n) (k := 1) w2 w3 (by omega) []
 have n2 := write_now ok1 1 (by omega) [] v1
 obtain ⟨s1, s2, s3, s4⟩ := sync_fine v2 v3
 have hd : (formC (D.zero n) n).d = ((((D.zero n).writeF n ((0 : Nat) : Int) root1).1.writeF n ((1 : Nat) : Int) []).1.syncF).1 := rfl
 have e0 : sec (formC (D.zero n) n).d.now 0 = root1 := by
  rw [hd, s4, n2 0 (by omega), if_neg (by omega), n1 0 (by omega), if_pos rfl]
  exact fill_same _ (Rt.rootL_length 1 0 [] (by simp))
 have e1 : sec (formC (D.zero n) n).d.now 1 = List.replicate 64 0 := by
  rw [hd, s4, n2 1 (by omega), if_pos rfl, zeros64]
 have hdec : Rt.decEp (List.replicate 64 0) < 1 := by decide +kernel
 refine ⟨⟨h1, right1, .inl rfl, e0, fun _ => ?_, fun i x hx => by simp at hx, fun j _ _ => by rw [hd]; exact sync_loose s1 j⟩, ?_⟩
 ·show Rt.decEp (sec (formC (D.zero n) n).d.now 1) < 1
  rw [e1]; exact hdec
 ·unfold Twin
  show (sec (formC (D.zero n) n).d.now 1).take 8 = (sec (formC (D.zero n) n).d.now 1).drop 56 ∧ Rt.decEp (sec (formC (D.zero n) n).d.now 1) < 1
  rw [e1]
  exact ⟨by simp, hdec⟩
theorem form_start (n : Nat) (h1 : 1 ≤ pagesF n) (hn : n ≤ 4096) (hok : (formC (D.zero n) n).d.Ok n) : Good (formC (D.zero n) n) n ∧ (formC (D.zero n) n).absF n = St.start (pagesF n) ∧ (formC (D.zero n) n).d.calls ≤ 10 ∧ Rooted (formC (D.zero n) n).d n 1 0 [] [] ∧ Twin (formC (D.zero n) n).d 0 1 := by
 obtain ⟨g, e, hc⟩ := good_start n h1 hn hok
 have hr := rooted_start n (by unfold pagesF manyF at h1; omega) hn
 exact ⟨g, e, hc, hr⟩
set_option maxRecDepth 100000 in
set_option maxHeartbeats 2000000 in
theorem begun14_any (w : World) (pg : Nat) (p1 : 1 ≤ pg) (p2 : pg ≤ 1000) :
  Calls Tryz.prog 13 #[.int .i64 (pg : Nat)] w fun e w' => ∃ x rb c, e = .returned (.tuple #[dp x.L.b, sp x.b, rp rb]) ∧ LS w w' x rb (2 + 4 * pg) c (St.start pg) 0 1 true := by
 have n1 : pagesF (2 + 4 * pg) = pg := by unfold pagesF manyF; omega
 have e1 : IntKind.i64.wrap (4 * (pg : Int)) = 4 * (pg : Int) := IntWalk.i64_in _ (by omega)
 have e2 : IntKind.i64.wrap (2 + 4 * (pg : Int)) = ((2 + 4 * pg : Nat) : Int) := by rw [show 2 + 4 * (pg : Int) = ((2 + 4 * pg : Nat) : Int) by omega]; exact IntWalk.i64_in _ (by omega)
 have KD := Lib.hid (Dk.new_yes (2 + 4 * pg) w (by omega) (by omega))
 have KF := Lib.hid (fun (W : World) (L : Dk.Loc) (hW : DiskAt W L (2 + 4 * pg) (D.zero (2 + 4 * pg))) => format_any hW (by omega) rfl rfl (by show (0 : Int) ≤ 1000; omega))
 have HQ := Lib.hid (show ∀ (W : World) (x : X), At W x (2 + 4 * pg) (formC (D.zero (2 + 4 * pg)) (2 + 4 * pg)) → Below w.heap.size w W → (∀ g ∈ x.fp, w.heap.size ≤ g) →
   LS w (W.alloc (.cells #[.int .i64 (pg : Nat), .slice none 0 0, .slice none 0 0, .int .i64 1, .bool false] 47)) x W.heap.size (2 + 4 * pg) (formC (D.zero (2 + 4 * pg)) (2 + 4 * pg)) (St.start pg) 0 1 true from fun W x A B F => by
  obtain ⟨g, e, hc, hr, ht⟩ := form_start (2 + 4 * pg) (by omega) (by omega) A.hd.ok
  have hal := Rt.belowAlloc (Below.refl W.heap.size W) (.cells #[.int .i64 (pg : Nat), .slice none 0 0, .slice none 0 0, .int .i64 1, .bool false] 47)
  refine ⟨by rw [armed_zero g.arm]; exact A.below hal, ⟨.slice none 0 0, .slice none 0 0, ⟨Blk.new W _ _, Slc.nil _ _ _, Slc.nil _ _ _, by simp [St.start], by simp [St.start], by show pg ≤ 1024; omega, by show (0 : Int) ≤ 1 ∧ (1 : Int) ≤ 1000000; omega⟩, fun y hy => ?_⟩, bstep B hal, F, g, hr, fun _ => ht, .inl rfl, ⟨0, by rw [pad_zero, e, n1]⟩, by omega, by omega, by show (1 : Int) ≤ (1 : Nat); omega⟩
  simp [ownB] at hy
  rw [hy]
  exact B.size)
 clear p1
 unfold dp sp rp at *
 go_enter Tryz.func13, Tryz.ntmps13
 go_wp2_with fail
 refine KD.out.mono ?_
 rintro e w1 ⟨L, rfl, D1, hb1, hL⟩
 have O1 := Lib.hid hb1
 have D1 := Lib.hid D1
 have HL := Lib.hid hL
 clear hb1 hL
 go_wp2_with fail
 refine (KF.out w1 L D1.out).mono ?_
 rintro e w2 ⟨x, hxL, rfl, A2, o2, fx⟩
 have H2 := Lib.hid (HQ.out w2 x A2 (O1.out.trans (o2.below_of O1.out.size HL.out)) (fun g hg => (fx g hg).elim (HL.out g) (fun h => by have := O1.out.size; omega)))
 subst hxL
 clear A2 o2 fx
 go_wp2_with fail
 go_ret3
 exact ⟨x, w2.heap.size, _, by first | rfl | simp, H2.out⟩
set_option maxHeartbeats 1000000 in
theorem short14_any (kd l : Int) (s : ByteArray) (w : World) (b : Bool) (hb : b = decide (s.size < 500)) :
  Calls Tryz.prog 15 #[.agg #[.int .i64 kd, .int .i64 l, .string s]] w fun e w' => e = .returned (.bool b) ∧ Below w.heap.size w w' := by
 have B0 := Lib.hid (Blk.new w 31 #[.int .i64 kd, .int .i64 l, .string s])
 have O0 := Lib.hid (Rt.belowAlloc (Below.refl w.heap.size w) (.cells #[.int .i64 kd, .int .i64 l, .string s] 31))
 by_cases hs : s.size < 500
 ·have hsI : (s.size : Int) < 500 := by omega
  rw [show decide (s.size < 500) = true by simpa using hs] at hb
  subst hb
  go_enter Tryz.func15, Tryz.ntmps15
  have b2 := B0.out.cell_some (i := 2) rfl
  go_wp2_with fail
  go_ret
  exact ⟨by first | rfl | simp, O0.out⟩
 ·have hsI : ¬ (s.size : Int) < 500 := by omega
  rw [show decide (s.size < 500) = false by simpa using hs] at hb
  subst hb
  go_enter Tryz.func15, Tryz.ntmps15
  have b2 := B0.out.cell_some (i := 2) rfl
  go_wp2_with fail
  go_ret
  exact ⟨by first | rfl | simp, O0.out⟩
/-- a call -/
structure Sa where
 kd : Int
 l : Int
 s : ByteArray
instance : Inhabited Sa := ⟨⟨0, 0, .empty⟩⟩
structure SaAt (w : World) (ad : Addr) (a : Sa) : Prop where
 c0 : w.cell? ad = some (.int .i64 a.kd)
 c1 : w.cell? ⟨ad.block, ad.off + 1, none⟩ = some (.int .i64 a.l)
 c2 : w.cell? ⟨ad.block, ad.off + 2, none⟩ = some (.string a.s)
def SActs (w : World) (A : Option Addr) (n : Nat) (F : Nat → Sa) : Prop := ∀ k, k < n → ∃ ad, A = some ad ∧ SaAt w (ad.add (k * 3)) (F k)
theorem SaAt.below {w w' : World} {ad : Addr} {a : Sa} (h : SaAt w ad a) (hb : Below w.heap.size w w') : SaAt w' ad a := by
 have hlt := cell_lt' h.c0
 have e : ∀ j : Nat, w'.cell? ⟨ad.block, ad.off + j, none⟩ = w.cell? ⟨ad.block, ad.off + j, none⟩ := fun j => hb.cell (p := ⟨ad.block, ad.off + j, none⟩) hlt
 exact ⟨(hb.cell hlt).trans h.c0, (e 1).trans h.c1, (e 2).trans h.c2⟩
theorem SActs.below {w w' : World} {A : Option Addr} {n : Nat} {F : Nat → Sa} (h : SActs w A n F) (hb : Below w.heap.size w w') : SActs w' A n F := by
 intro k hk
 obtain ⟨ad, e, h1⟩ := h k hk
 exact ⟨ad, e, h1.below hb⟩
theorem add_at' (a : Addr) (i j : Nat) (hj : 0 < j) : (a.add i).add j = ⟨(a.add i).block, (a.add i).off + j, none⟩ := by
 rw [Addr.add, if_neg (by omega)]
theorem add_zero'' (a : Addr) : a.add 0 = a := by simp [Addr.add]
theorem choose_lt' {α : Type} [Inhabited α] {n : Nat} {p : Nat → α → Prop} (h : ∀ k, k < n → ∃ x, p k x) : ∃ F : Nat → α, ∀ k, k < n → p k (F k) := by
 refine ⟨fun k => if hk : k < n then Classical.choose (h k hk) else default, fun k hk => ?_⟩
 show p k (if hk : k < n then Classical.choose (h k hk) else default)
 rw [dif_pos hk]
 exact Classical.choose_spec (h k hk)
set_option maxRecDepth 100000 in
theorem sacts_of {H : Type} {enc : TypeId × Value → H} {w : World} {base : Nat} {v : Value} {d : DataW H} {ps : List MemPlace} (hok : Value.okWide Tryz.prog w .any base 22 v) (h : DataW.Trod enc Tryz.prog w 0 (fun _ => true) true 22 v d ps) :
  ∃ (A : Option Addr) (n c : Nat) (F : Nat → Sa), v = .slice A n c ∧ n ≤ 9223372036854775807 ∧ SActs w A n F := by
 obtain ⟨a0, len, cap, rfl⟩ := Go.WideShapes.okWide_slice Tryz.underlying22 hok
 obtain ⟨fuel, hf⟩ := h
 have hce : Tryz.prog.cellsOf 31 = 3 := by kernel_rfl
 rcases open_slice Tryz.underlying22 hf with ⟨hcs, _⟩ | ⟨a, len', cap', m, n, D, Pl, hcs, _, hl, hm, hmm, _, hall⟩
 ·simp [Value.cells] at hcs
  obtain ⟨rfl, rfl, rfl⟩ := hcs
  exact ⟨none, 0, 0, fun _ => default, rfl, Nat.zero_le _, fun k hk => absurd hk (by omega)⟩
 ·simp [Value.cells] at hcs
  obtain ⟨rfl, rfl, rfl⟩ := hcs
  simp at hmm
  have each : ∀ k, k < len → ∃ x : Sa, SaAt w (a.add (k * 3)) x := by
   intro k hk
   obtain ⟨cs', hcs, htr⟩ := hall k (by omega)
   rw [hce] at hcs
   obtain ⟨_, _, hget⟩ := World.cells?_some hcs
   obtain ⟨kd, l, s, rfl, _, _⟩ := sact_view Tryz.underlying31 (by kernel_rfl) rfl rfl rfl (by kernel_rfl) (by kernel_rfl) (by kernel_rfl) Tryz.underlying3 Tryz.underlying3 Tryz.underlying9 htr
   have g0 := hget 0 (by omega)
   have g1 := hget 1 (by omega)
   have g2 := hget 2 (by omega)
   rw [add_zero''] at g0
   rw [add_at' _ _ _ (by omega)] at g1 g2
   exact ⟨⟨kd, l, s⟩, g0, g1, g2⟩
  obtain ⟨F, hF⟩ := choose_lt' (p := fun k x => SaAt w (a.add (k * 3)) x) each
  exact ⟨some a, len, cap, F, rfl, by unfold maxLen at hm; omega, fun k hk => ⟨a, rfl, hF k hk⟩⟩
end Go.Proofs.YtbelcgjbhpjnpaaGreat.Sh
