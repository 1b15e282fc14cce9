/-
  DiskSafe: for every input the law returns true, and each argument reads behind the call as before. No condition of its own.
-/
import Derived.Test.YtclompapmbhijaaDiskLaw3
namespace Go.Proofs.Ytclompapmbhijaa.diskSafe
open Go.ChangeShapes Go.WideShapes Go.ChangeAt Go.RowKit
open Go.ChangeMaps (open_string shut_string)
set_option linter.unusedVariables false

open Dk
attribute [local go_sem ↓] Go.wp_at_zero Go.wp_at_succ
set_option maxRecDepth 100000 in
set_option maxHeartbeats 40000000 in
theorem walk_in {w : World} (A : Option Addr) (m c : Nat) (F : Nat → Ac) (hm : m ≤ 9223372036854775807) (hacts : Acts w A m F) (C1 C2 : Cr) (hC1 : C1.At w) (hm1 : C1.m ≤ 9223372036854775807) (hC2 : C2.At w) (hm2 : C2.m ≤ 9223372036854775807) :
    Calls Try.prog 3 #[.slice A m c, C1.val, C2.val] w fun e w' => e = .returned (.bool true) ∧ Below w.heap.size w w' := by
  unfold Cr.val
  have b1 := (Below.refl w.heap.size w).alloc (Nat.le_refl _) (.cells #[.slice C1.A C1.m C1.c, .int .i64 C1.torn, .int .i64 C1.bytes] 25)
  have hz1 : (w.alloc (.cells #[.slice C1.A C1.m C1.c, .int .i64 C1.torn, .int .i64 C1.bytes] 25)).heap.size = w.heap.size + 1 := by simp
  have B1 := Blk.new w 25 #[.slice C1.A C1.m C1.c, .int .i64 C1.torn, .int .i64 C1.bytes]
  have B2 := Blk.new (w.alloc (.cells #[.slice C1.A C1.m C1.c, .int .i64 C1.torn, .int .i64 C1.bytes] 25)) 25 #[.slice C2.A C2.m C2.c, .int .i64 C2.torn, .int .i64 C2.bytes]
  rw [hz1] at B2
  have B1 := B1.alloc (.cells #[.slice C2.A C2.m C2.c, .int .i64 C2.torn, .int .i64 C2.bytes] 25)
  have b2 := b1.alloc (by simp) (.cells #[.slice C2.A C2.m C2.c, .int .i64 C2.torn, .int .i64 C2.bytes] 25)
  have hA1 := Lib.hid hC1.lt
  have hA2 := Lib.hid hC2.lt
  have hacts := Lib.hid (hacts.below b2)
  have hC1 := Lib.hid (hC1.below b2)
  have hC2 := Lib.hid (hC2.below b2)
  have B1 := Lib.hid B1
  have B2 := Lib.hid B2
  have O0 := Lib.hid b2
  clear b1 b2 hz1
  go_enter Try.func3, Try.ntmps3
  go_wp2_with fail
  generalize hWW : ((w.alloc (.cells #[.slice C1.A C1.m C1.c, .int .i64 C1.torn, .int .i64 C1.bytes] 25)).alloc (.cells #[.slice C2.A C2.m C2.c, .int .i64 C2.torn, .int .i64 C2.bytes] 25)) = W at *
  clear hWW
  have hW2 : w.heap.size + 1 < W.heap.size := B2.out.lt
  have KM := made_yes 6 A m c F hacts.out hm (by omega) (by omega)
  unfold dp xp at KM
  refine KM.mono ?_
  rintro e w1 ⟨L, M, d, x, rfl, hM⟩
  have hBoth := Lib.hid hM.both
  have FRM := Lib.hid hM.fr
  have B1 := Lib.hid (B1.out.below hM.below B1.out.lt)
  have B2 := Lib.hid (B2.out.below hM.below B2.out.lt)
  have hC1 := Lib.hid (hC1.out.below hM.below)
  have hC2 := Lib.hid (hC2.out.below hM.below)
  have O1 := Lib.hid (bstep O0.out hM.below)
  have hWs := O0.out.size
  have hb1l := B1.out.lt
  clear hM hacts KM
  go_wp2_with fail
  refine (awake_any _).mono ?_
  rintro e w2 ⟨rfl, hb2⟩
  have hBoth := Lib.hid (hBoth.out.below hb2)
  have B1 := Lib.hid (B1.out.below hb2 B1.out.lt)
  have B2 := Lib.hid (B2.out.below hb2 B2.out.lt)
  have hC1 := Lib.hid (hC1.out.below hb2)
  have hC2 := Lib.hid (hC2.out.below hb2)
  have O2 := Lib.hid (bstep O1.out hb2)
  clear hb2 hb1l
  go_upto_region 4 with (fail)
  have X := hBoth.out.rf
  have f0 := X.f0
  have f1 := X.f1
  have f2 := X.f2
  have hxs := X.ok.safe
  have hxn := X.ok.new
  have hxi := X.ok.is
  have S0 := Lib.hid (show ∀ W, Since w2 W → ∀ j u, (sv x.safe)[j]? = some u → W.cell? ((⟨M.gS, 0, none⟩ : Addr).add j) = some u from fun W h => cells_at (X.hS.below h X.hS.lt) 0 _ (by intro j u hu; rw [Nat.zero_add, List.getElem?_append_left (List.getElem?_eq_some_iff.1 hu).1]; exact hu))
  have S1 := Lib.hid (show ∀ W, Since w2 W → ∀ j u, (sv x.new)[j]? = some u → W.cell? ((⟨M.gW, 0, none⟩ : Addr).add j) = some u from fun W h => cells_at (X.hW.below h X.hW.lt) 0 _ (by intro j u hu; rw [Nat.zero_add, List.getElem?_append_left (List.getElem?_eq_some_iff.1 hu).1]; exact hu))
  have S2 := Lib.hid (show ∀ W, Since w2 W → ∀ j u, (bools x.is)[j]? = some u → W.cell? ((⟨M.gI, 0, none⟩ : Addr).add j) = some u from fun W h => cells_at (X.hI.below h X.hI.lt) 0 _ (by intro j u hu; rw [Nat.zero_add, List.getElem?_append_left (List.getElem?_eq_some_iff.1 hu).1]; exact hu))
  have HK := Lib.hid (show ∀ W, Since w2 W → (Since w2 W ∧ W.cell? ⟨M.b, 0, none⟩ = some (.slice (some ⟨M.gS, 0, none⟩) 6 M.cS) ∧ W.cell? ⟨M.b, 1, none⟩ = some (.slice (some ⟨M.gW, 0, none⟩) 6 M.cW) ∧ W.cell? ⟨M.b, 2, none⟩ = some (.slice (some ⟨M.gI, 0, none⟩) 6 M.cI)) from fun W h => ⟨h, (Below.cell h X.hb.lt).trans f0, (Below.cell h X.hb.lt).trans f1, (Below.cell h X.hb.lt).trans f2⟩)
  have l0 : (sv x.safe).length = 6 := by simp [sv, hxs]
  have l1 : (sv x.new).length = 6 := by simp [sv, hxn]
  have l2 : (bools x.is).length = 6 := by simp [hxi]
  have L0 := Lib.hid l0
  have L1 := Lib.hid l1
  have L2 := Lib.hid l2
  have d0 : Since w2 w2.drew := Since.drew
  clear X hxs hxn hxi l0 l1 l2
  go_cut [10, 11, 12] from 38 to 55 (fun v10 v11 v12 wx => Slc wx 9 1 v10 6 (sv x.safe) ∧ Slc wx 9 1 v11 6 (sv x.new) ∧ Slc wx 4 1 v12 6 (bools x.is) ∧ Since w2 wx ∧ (∀ g ∈ ownB v10, w2.heap.size ≤ g) ∧ (∀ g ∈ ownB v11, w2.heap.size ≤ g) ∧ (∀ g ∈ ownB v12, w2.heap.size ≤ g))
  case first =>
    go_region_held3 (fun w' => Since w2 w' ∧ w'.cell? ⟨M.b, 0, none⟩ = some (.slice (some ⟨M.gS, 0, none⟩) 6 M.cS) ∧ w'.cell? ⟨M.b, 1, none⟩ = some (.slice (some ⟨M.gW, 0, none⟩) 6 M.cW) ∧ w'.cell? ⟨M.b, 2, none⟩ = some (.slice (some ⟨M.gI, 0, none⟩) 6 M.cI))
      ((go_split_ands; refine HK.out _ ?_; (first | assumption | (exact Since.alloc (by assumption) _))))
      (first
        | ((refine step_append_new (by rfl) _ _ _ (by rfl) w2 9 (.string .empty) 16 Try.underlying31 info_string rfl _ (by rfl) ⟨M.gS, 0, none⟩ 6 M.cS (sv x.safe) (by rfl) L0.out (by omega) (by omega) (by omega) S0.out (by first | assumption | (go_split_ands; assumption)) ?_; intro v0 W0 T0 F0 H0 I0))
        | ((refine step_append_new (by rfl) _ _ _ (by rfl) w2 9 (.string .empty) 16 Try.underlying31 info_string rfl _ (by rfl) ⟨M.gW, 0, none⟩ 6 M.cW (sv x.new) (by rfl) L1.out (by omega) (by omega) (by omega) S1.out (by first | assumption | (go_split_ands; assumption)) ?_; intro v1 W1 T1 F1 H1 I1))
        | ((refine step_append_new (by rfl) _ _ _ (by rfl) w2 4 (.bool false) 1 Try.underlying23 info_bool1 rfl _ (by rfl) ⟨M.gI, 0, none⟩ 6 M.cI (bools x.is) (by rfl) L2.out (by omega) (by omega) (by omega) S2.out (by first | assumption | (go_split_ands; assumption)) ?_; intro v2 W2 T2 F2 H2 I2)))
    all_goals
      go_wp2_with fail
      go_meet
      refine ⟨Slc.below T0 ?_, Slc.below T1 ?_, Slc.below T2 ?_, by first | assumption | (go_split_ands; assumption), F0, F1, F2⟩
      all_goals (repeat (first | exact Below.refl _ _ | exact belowAlloc (Below.refl _ _) _ | refine belowAlloc ?_ _ | refine belowDrew ?_ | refine bstep ?_ (by assumption)))
  case rest =>
    obtain ⟨S10, S11, S12, hsc, G0, G1, G2⟩ := hcut
    have R := hBoth.out.r
    have HD := hBoth.out.dv.below hsc
    have HC1 := hC1.out.below hsc
    have HC2 := hC2.out.below hsc
    have hb1 := B1.out.below hsc B1.out.lt
    have hb2 := B2.out.below hsc B2.out.lt
    have O3 := bstep O2.out hsc
    have hdl := hBoth.out.dv.lt
    have hLge : ∀ y ∈ L.fp, W.heap.size ≤ y := fun y hy => FRM.out y (by unfold bfp; exact List.mem_append_left _ hy)
    have hLw : ∀ y ∈ L.fp, w.heap.size ≤ y := fun y hy => Nat.le_trans hWs (hLge y hy)
    have hap1 : ∀ ad, C1.A = some ad → 0 < C1.m → ad.block ∉ L.fp := fun ad h1 h2 hm => by
      have q1 := hA1.out ad h1 h2
      have q2 := hLge _ hm
      omega
    have hap2 : ∀ ad, C2.A = some ad → 0 < C2.m → ad.block ∉ L.fp := fun ad h1 h2 hm => by
      have q1 := hA2.out ad h1 h2
      have q2 := hLge _ hm
      omega
    have nb2 : w.heap.size + 1 ∉ L.fp := fun hm => by
      have q2 := hLge _ hm
      omega
    obtain ⟨g10, c10, r10, rfl, T10, n10, m10⟩ := S10.form (by omega) (by omega)
    obtain ⟨g11, c11, r11, rfl, T11, n11, m11⟩ := S11.form (by omega) (by omega)
    obtain ⟨g12, c12, r12, rfl, T12, n12, m12⟩ := S12.form (by omega) (by omega)
    have a10 : g10 ∉ L.fp := fun hm => by
      have q1 := hdl _ hm
      have q2 := G0 g10 (by simp [ownB])
      omega
    have a11 : g11 ∉ L.fp := fun hm => by
      have q1 := hdl _ hm
      have q2 := G1 g11 (by simp [ownB])
      omega
    have a12 : g12 ∉ L.fp := fun hm => by
      have q1 := hdl _ hm
      have q2 := G2 g12 (by simp [ownB])
      omega
    have KC := Lib.hid (crash_any HD C1 HC1 hm1 hap1)
    have c0 := hb1.cell_some (i := 0) rfl
    have c1 := hb1.cell_some (i := 1) rfl
    have c2 := hb1.cell_some (i := 2) rfl
    have HX := Lib.hid (And.intro HC2 (And.intro hap1 (And.intro hap2 (And.intro nb2 (And.intro hb2 (And.intro O3 (And.intro T10 (And.intro T11 (And.intro T12 hLw)))))))))
    have HA := Lib.hid (And.intro a10 (And.intro a11 a12))
    have RR := Lib.hid R
    unfold dp Cr.val at KC
    clear S10 S11 S12 hsc G0 G1 G2 R HD HC1 HC2 hb1 hb2 O3 hdl hLge hLw hap1 hap2 nb2 T10 T11 T12 n10 n11 n12 m10 m11 m12 a10 a11 a12 f0 f1 f2 S0 S1 S2 HK L0 L1 L2 d0 B1 B2 hBoth hC1 hC2 O2
    go_wp2_with fail
    refine KC.out.mono ?_
    rintro e w3 ⟨rfl, D3, o3⟩
    obtain ⟨HC2, hap1, hap2, nb2, hb2, O3, T10, T11, T12, hLw⟩ := HX.out
    obtain ⟨a10, a11, a12⟩ := HA.out
    have T10 := T10.only o3 a10
    have T11 := T11.only o3 a11
    have T12 := T12.only o3 a12
    have hb2 := hb2.only o3 nb2
    have HC2 := HC2.only o3 hap2
    have O4 := Lib.hid (O3.trans (o3.below_of O3.size hLw))
    have R2 := RR.out.crash C1
    have XO := RR.out.xok
    have hl1 := XO.safe
    have hl2 := XO.new
    have hl3 := XO.is
    have KR := Lib.hid (show ∀ W', Below w3.heap.size w3 W' → ∀ i : Nat, i < 6 → Calls Try.prog 12 #[.pointer (some ⟨L.b, 0, none⟩), .int .i64 (i : Int)] W' fun e w' => e = .returned (.tuple #[.string (After C1 x i), .int .i64 0]) ∧ W' = w' from fun W' hb i hi => by
      have K := read_any (D3.below hb) i
      rw [read_now rfl i hi, R2.now i hi, crash_now XO C1 i hi, Array.toArray_toList] at K
      exact K)
    have FQ := Lib.hid (show ∀ W', Below w3.heap.size w3 W' → ∀ i : Nat, i < 6 → W'.cell? ⟨g10, i, none⟩ = some (.string (x.safe.getD i .empty)) from fun W' hb i hi => (T10.below hb T10.lt).cell_some (by rw [List.getElem?_toArray]; exact sv_get _ _ i (by omega)))
    have FN := Lib.hid (show ∀ W', Below w3.heap.size w3 W' → ∀ i : Nat, i < 6 → W'.cell? ⟨g11, i, none⟩ = some (.string (x.new.getD i .empty)) from fun W' hb i hi => (T11.below hb T11.lt).cell_some (by rw [List.getElem?_toArray]; exact sv_get _ _ i (by omega)))
    have FI := Lib.hid (show ∀ W', Below w3.heap.size w3 W' → ∀ i : Nat, i < 6 → W'.cell? ⟨g12, i, none⟩ = some (.bool (x.is.getD i false)) from fun W' hb i hi => (T12.below hb T12.lt).cell_some (by rw [List.getElem?_toArray, List.getElem?_append_left (by simp; omega)]; exact bools_get _ i (by omega)))
    have XS := Lib.hid (crash_now XO C1 2 (by omega) ▸ R2.now 2 (by omega) : sec (d.crashF C1 6).now 2 = (After C1 x 2).data.toList)
    have HDK := Lib.hid RR.out.dok
    have XO := Lib.hid XO
    have DD := Lib.hid D3
    have hb2 := Lib.hid hb2
    have HC2 := Lib.hid HC2
    have HP := Lib.hid hap2
    have HL := Lib.hid hLw
    clear hl1 hl2 hl3 R2 RR T10 T11 T12 hap1 hap2 hLw a10 a11 a12 HA HX o3 O3 D3 KC c0 c1 c2 nb2
    go_wp2_with fail
    go_loopw [13, 14] (fun tv iv wr => ∃ T i : Nat, i ≤ 6 ∧ tv = .int .i64 T ∧ iv = .int .i64 i ∧ (T = 0 ∨ (T = 1 ∧ C1.torn < ((x.crashTo C1 i).2 : Int))) ∧ Below w3.heap.size w3 wr) (fun _ iv _ => 6 - (intOf iv).toNat)
    case atStart => exact ⟨0, 0, by omega, rfl, rfl, .inl rfl, Below.refl _ _⟩
    case round =>
      obtain ⟨T, i, hi, rfl, rfl, hT, hbr⟩ := hrel
      by_cases h : i < 6
      · have K1 := Lib.hid (KR.out wr hbr i h)
        have s0 := FQ.out wr hbr i h
        have n0 := FN.out wr hbr i h
        have i0 := FI.out wr hbr i h
        have z1 := after_size XO.out C1 i h
        have z2 := XO.out.safe64 i h
        have hbr := Lib.hid hbr
        have HT := Lib.hid hT
        have RK := Lib.hid (rank_next XO.out C1 i h)
        clear hT
        cases his : x.is.getD i false
        · rw [his] at i0
          have eA : After C1 x i = x.safe.getD i .empty := by unfold After; rw [if_neg (by rw [his]; decide)]
          rw [eA] at K1 z1
          clear eA
          generalize x.safe.getD i .empty = v at *
          go_wp2_with fail
          refine K1.out.mono ?_
          rintro e w4 ⟨rfl, rfl⟩
          go_wp2_with fail
          refine ⟨⟨T, i + 1, by omega, rfl, rfl, ?_, hbr.out⟩, (by show 6 - ((i : Int) + 1).toNat < 6 - ((i : Int)).toNat; omega)⟩
          have q := RK.out
          rw [his] at q
          rcases HT.out with q1 | ⟨q1, q2⟩
          · exact .inl q1
          · refine .inr ⟨q1, ?_⟩
            rw [q]; simpa using q2
        · rw [his] at i0
          by_cases e1 : After C1 x i = x.safe.getD i .empty
          · rw [e1] at K1 z1
            clear e1
            generalize x.safe.getD i .empty = v at *
            go_wp2_with fail
            refine K1.out.mono ?_
            rintro e w4 ⟨rfl, rfl⟩
            go_wp2_with fail
            refine ⟨⟨T, i + 1, by omega, rfl, rfl, ?_, hbr.out⟩, (by show 6 - ((i : Int) + 1).toNat < 6 - ((i : Int)).toNat; omega)⟩
            have q := RK.out
            rw [his] at q
            rcases HT.out with q1 | ⟨q1, q2⟩
            · exact .inl q1
            · refine .inr ⟨q1, ?_⟩
              rw [q]; simp; omega
          by_cases e2 : After C1 x i = x.new.getD i .empty
          · rw [e2] at K1 z1 e1
            clear e2
            generalize x.safe.getD i .empty = v at *
            generalize x.new.getD i .empty = f at *
            go_wp2_with fail
            refine K1.out.mono ?_
            rintro e w4 ⟨rfl, rfl⟩
            go_wp2_with fail
            all_goals
              refine ⟨⟨T, i + 1, by omega, rfl, rfl, ?_, hbr.out⟩, (by show 6 - ((i : Int) + 1).toNat < 6 - ((i : Int)).toNat; omega)⟩
              have q := RK.out
              rw [his] at q
              rcases HT.out with q1 | ⟨q1, q2⟩
              · exact .inl q1
              · refine .inr ⟨q1, ?_⟩
                rw [q]; simp; omega
          have ht := after_other XO.out C1 i h his e1 e2
          have z3 := XO.out.fitn i his
          obtain rfl : T = 0 := by
            rcases HT.out with q1 | ⟨q1, q2⟩
            · exact q1
            · omega
          have RK2 := Lib.hid (show C1.torn < ((x.crashTo C1 (i + 1)).2 : Int) from by
            have q := RK.out
            rw [his] at q
            rw [q]; simp; omega)
          have TL := Lib.hid (fun k hk => after_tail XO.out C1 i h his k hk)
          have EG := Lib.hid (eq_of_gets z1 z3)
          clear HT RK ht
          have FN1 := Lib.hid (fun W' hb => FN.out W' hb i h)
          have FQ1 := Lib.hid (fun W' hb => FQ.out W' hb i h)
          have y1 := toL_ne e1
          have y2 := toL_ne e2
          have y3 := toL_beq e1
          have y4 := toL_beq e2
          generalize After C1 x i = s at *
          generalize x.new.getD i .empty = f at *
          generalize x.safe.getD i .empty = v at *
          go_wp2_with fail
          refine K1.out.mono ?_
          rintro e w4 ⟨rfl, rfl⟩
          go_wp2_with fail
          go_wp2_with fail
          go_loopw [17] (fun kv wq => ∃ k : Nat, k ≤ 64 ∧ kv = .int .i64 k ∧ (∀ j, j < k → s.get! j = f.get! j) ∧ Below w3.heap.size w3 wq) (fun kv _ => 64 - (intOf kv).toNat)
          case atStart => exact ⟨0, by omega, rfl, fun j hj => absurd hj (Nat.not_lt_zero j), hbr.out⟩
          case round =>
            obtain ⟨k, hk, rfl, hg, hbq⟩ := hrel
            have s1 := FQ1.out _ hbq
            have n1 := FN1.out _ hbq
            have hbq := Lib.hid hbq
            have hg := Lib.hid hg
            by_cases hk2 : k < 64
            · have hk3 : k < s.size := by omega
              have hk4 : k < f.size := by omega
              have hk5 : (k : Int) < (s.size : Int) := by omega
              have hk6 : (k : Int) < (f.size : Int) := by omega
              have hk7 : (k : Int) ≤ (s.size : Int) := by omega
              have hk8 : (k : Int) ≤ (v.size : Int) := by omega
              have hk9 : (k : Int) < 64 := by omega
              have u1 := get_bang s k hk3
              have u2 := get_bang f k hk4
              by_cases hq : s[k] = f[k]
              · have hq2 : (s[k].toNat : Int) = (f[k].toNat : Int) := by rw [hq]
                go_wp2_with fail
                go_quiet (fail)
                go_wp2_with fail
                refine ⟨⟨k + 1, by omega, rfl, fun j hj => ?_, Below_drewN hbq.out _⟩, by show 64 - ((k : Int) + 1).toNat < 64 - ((k : Int)).toNat; omega⟩
                rcases Nat.lt_succ_iff_lt_or_eq.1 hj with h1 | rfl
                · exact hg.out j h1
                · rw [u1, u2]; exact hq
              · have hq2 : ¬ (s[k].toNat : Int) = (f[k].toNat : Int) := fun e => hq (by
                  have : s[k].toNat = f[k].toNat := by omega
                  exact UInt8.toNat_inj.1 this)
                have TT := TL.out k hk2 (by rw [u1, u2]; exact hq)
                go_wp2_with fail
                go_quiet (fail)
                go_wp2_with fail
                go_quiet (fail)
                go_wp2_with fail
                exact ⟨⟨1, i + 1, by omega, rfl, rfl, .inr ⟨rfl, RK2.out⟩, Below_drewN hbq.out _⟩, by show 6 - ((i : Int) + 1).toNat < 6 - ((i : Int)).toNat; omega⟩
            · exact absurd (EG.out (fun j hj => hg.out j (by omega))) e2
      · obtain rfl : i = 6 := by omega
        have K2 := Lib.hid (KR.out wr hbr 2 (by omega))
        have hb3 := hb2.out.below hbr hb2.out.lt
        have c0 := hb3.cell_some (i := 0) rfl
        have c1 := hb3.cell_some (i := 1) rfl
        have c2 := hb3.cell_some (i := 2) rfl
        have KC2 := Lib.hid (crash_any (DD.out.below hbr) C2 (HC2.out.below hbr) hm2 HP.out)
        have O5 := Lib.hid (bstep O4.out hbr)
        have hT2 : (T : Int) ≤ 1 := by omega
        unfold dp Cr.val at KC2
        go_wp2_with fail
        refine K2.out.mono ?_
        rintro e w4 ⟨rfl, rfl⟩
        go_wp2_with fail
        refine KC2.out.mono ?_
        rintro e w5 ⟨rfl, D5, o5⟩
        have AG := crash_again C1 C2 HDK.out
        have O6 := Lib.hid (O5.out.trans (o5.below_of O5.out.size HL.out))
        have K3 := read_any D5 ((2 : Nat) : Int)
        rw [read_now (n := 6) (down_crash C2 _ 6) 2 (by omega), AG.1, XS.out, Array.toArray_toList, show ((2 : Nat) : Int) = 2 from rfl] at K3
        have K4 := loose_any D5
        rw [AG.2, count_false] at K4
        have K5 := down_any D5
        rw [down_crash] at K5
        unfold dp at K3 K4 K5
        have K3 := Lib.hid K3
        have K4 := Lib.hid K4
        have K5 := Lib.hid K5
        clear c0 c1 c2
        go_wp2_with fail
        refine K3.out.mono ?_
        rintro e w6 ⟨rfl, rfl⟩
        go_wp2_with fail
        refine K4.out.mono ?_
        rintro e w6 ⟨rfl, rfl⟩
        go_wp2_with fail
        refine K5.out.mono ?_
        rintro e w6 ⟨rfl, rfl⟩
        go_wp2_with fail
        go_ret
        exact ⟨rfl, O6.out⟩
theorem walk {H : Type} {enc : TypeId × Value → H} {w : World} {base : Nat} {v : Value} {d : DataW H} {ps : List MemPlace} (hok : Value.okWide Try.prog w .any base 22 v) (h : DataW.Trod enc Try.prog w 0 (fun _ => true) true 22 v d ps)
    {v1 : Value} {d1 : DataW H} {ps1 : List MemPlace} (hok1 : Value.okWide Try.prog w .any base 25 v1) (h1 : DataW.Trod enc Try.prog w 0 (fun _ => true) true 25 v1 d1 ps1)
    {v2 : Value} {d2 : DataW H} {ps2 : List MemPlace} (hok2 : Value.okWide Try.prog w .any base 25 v2) (h2 : DataW.Trod enc Try.prog w 0 (fun _ => true) true 25 v2 d2 ps2) :
    Calls Try.prog 3 #[v, v1, v2] w fun e w' => e = .returned (.bool true) ∧ Below w.heap.size w w' := by
  obtain ⟨A, m, c, F, rfl, hm, ha⟩ := acts_of hok h
  obtain ⟨C1, rfl, a1, m1⟩ := crash_of hok1 h1
  obtain ⟨C2, rfl, a2, m2⟩ := crash_of hok2 h2
  exact walk_in A m c F hm ha C1 C2 a1 m1 a2 m2

set_option maxRecDepth 100000 in
theorem contract (H : Type) (enc : TypeId × Value → H) (W : World) (base : Nat) (args : Array Value) (ds gs : List (DataW H)) (before : List MemPlace)
    (hval0 : ∀ (j : Nat) t v, Try.f3.params[j]? = some t → args[j]? = some v → Value.okWide Try.prog W .any base t v)
    (hW : DataW.Whole enc Try.prog Try.f3.params.toList Rows.diskSafeSpec.vars false W args.toList ds gs before) :
    Calls Try.prog 3 args W fun e W' => ∃ v, e = .returned v ∧ Rows.diskSafeSpec.post enc Try.prog Try.f3 false true false false W args v W' := by
  have hval := hval0
  have hW' := hW
  obtain ⟨p, q, hA0, hV, rfl, hfz, hnd⟩ := hW
  have hA : DataW.TrodAll enc Try.prog W 0 (fun _ => true) true Try.f3.params.toList args.toList ds p := hA0
  have hlt : ∀ x ∈ p, x.block < W.heap.size := fun x hx => by simpa using hW'.lt x (List.mem_append_left _ hx)
  rw [Try.params3] at hA hval
  obtain ⟨v0, vs0, d0, ds0, p0, q0, hargs, rfl, rfl, h0, r0⟩ := trodAll_cons hA
  obtain ⟨v1, vs1, d1, ds1, p1, q1, rfl, rfl, rfl, h1, r1⟩ := trodAll_cons r0
  obtain ⟨v2, vs2, d2, ds2, p2, q2, rfl, rfl, rfl, h2, r2⟩ := trodAll_cons r1
  obtain ⟨rfl, rfl, rfl⟩ := trodAll_nil r2
  obtain rfl : args = #[v0, v1, v2] := by cases args; simp_all
  obtain ⟨rfl, rfl⟩ := trodVars_none hV
  refine (walk (hval 0 22 v0 rfl rfl) h0 (hval 1 25 v1 rfl rfl) h1 (hval 2 25 v2 rfl rfl) h2 ).mono fun e W1 ⟨he, hb⟩ => ?_
  subst he
  exact ⟨_, rfl, law_post laidOut hW' rfl (by kernel_rfl) (by rfl) Try.underlying4 rfl hb⟩

set_option maxRecDepth 100000 in
theorem lifted (os : Os) (started : os.Started) (H : Type) (enc : TypeId × Value → H) :
    ReturnsInHanded {} Try.checked os 3 .any (Rows.diskSafeSpec.pre6 enc Try.prog Try.f3 Rows.diskSafeRow.domain false) (Rows.diskSafeSpec.post enc Try.prog Try.f3 false true false false) := by
  refine returnsInHanded_of_change (C := Try.checked) own started (by kernel_rfl) Try.func3
    (ChangeSpec.witness6 (enc := enc) (C := Try.checked) false ⟨#[], #[.slice none 0 0, .agg #[.slice none 0 0, .int .i64 0, .int .i64 0], .agg #[.slice none 0 0, .int .i64 0, .int .i64 0]], []⟩ 8 (by kernel_rfl) (by kernel_rfl) (by kernel_rfl) (by kernel_rfl)) ?_
  intro W base args ds gs before hval0 hW hcnd _
  exact contract H enc W base args ds gs before hval0 hW

theorem proved : Rows.DiskSafeSaid :=
  OpenClaim.holds_of_wide 3 Try.f3 rfl rfl rfl rfl rfl rfl rfl ⟨rfl, rfl, rfl, rfl, rfl⟩ rfl rfl rfl rfl rfl (by kernel_rfl) Try.func3 (by kernel_rfl)
    (of_decide_eq_true (by kernel_rfl)) (by unfold Func.isWrapper; first | (rw [if_pos (by decide +kernel)]; kernel_rfl) | (rw [if_neg (by decide +kernel)]; exact ⟨rfl, rfl⟩))
    (fun os started H enc _ => lifted os started H enc)
#print axioms proved
end Go.Proofs.Ytclompapmbhijaa.diskSafe
