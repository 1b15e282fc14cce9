/- chain's laws: begun. -/
import Derived.Test.YtbelcgjbhpjnpaaGreatXc
import Derived.Test.YtbelcgjbhpjnpaaGreatMa
import Derived.Test.YtbelcgjbhpjnpaaGreatNa
set_option linter.all false
set_option linter.unusedVariables false
set_option linter.unusedSimpArgs false
set_option maxRecDepth 100000
namespace Go.Proofs.YtbelcgjbhpjnpaaGreat.Sh
open Go.RowKit Pk Dk Pg
attribute [local go_sem ↓] Go.wp_at_zero Go.wp_at_succ
set_option maxRecDepth 100000 in
set_option maxHeartbeats 2000000 in
theorem begun_any (w : World) (fr pg : Nat) (f1 : 1 ≤ fr) (f2 : fr ≤ 32) (p1 : 1 ≤ pg) (p2 : pg ≤ 1000) :
  Calls Tryz.prog 61 #[.int .i64 (fr : Nat), .int .i64 (pg : Nat)] w fun e w' => ∃ pb sb rb F, e = .returned (.tuple #[pp pb, .pointer (some ⟨rb, 0, none⟩)]) ∧ AtQ w' pb sb F (St.start pg) 10 ∧ Below w.heap.size w w' ∧ ∀ g ∈ F, w.heap.size ≤ g := by
 have n1 : pagesF (2 + 4 * pg) = pg := by unfold pagesF manyF; omega
 have e1 : IntKind.i64.wrap (4 * (pg : Int)) = 4 * (pg : Int) := IntWalk.i64_in _ (by omega)
 have e2 : IntKind.i64.wrap (2 + 4 * (pg : Int)) = ((2 + 4 * pg : Nat) : Int) := by rw [show 2 + 4 * (pg : Int) = ((2 + 4 * pg : Nat) : Int) by omega]; exact IntWalk.i64_in _ (by omega)
 have KD := Lib.hid (new_yes (2 + 4 * pg) w (by omega) (by omega))
 have KF := Lib.hid (fun (W : World) (L : Dk.Loc) (hW : DiskAt W L (2 + 4 * pg) (D.zero (2 + 4 * pg))) => format_any hW (by omega) rfl rfl (by show (0 : Int) ≤ 1000; omega))
 have KP := Lib.hid (fun (W : World) (b : Nat) => pnew_any (w := W) b fr f1 f2)
 have KR := Lib.hid (fun (W : World) (b : Nat) => rnew15_any (w := W) b fr f2)
 have HQ := Lib.hid (show ∀ (W : World) (x : X) (pb : Nat) (v : Value), At W x (2 + 4 * pg) (formC (D.zero (2 + 4 * pg)) (2 + 4 * pg)) → Blk W pb 148 #[sp x.b, v, .int .i64 0] → Slc W 150 5 v fr (frc (List.replicate fr Fr.nil)) → (∀ g ∈ x.fp, w.heap.size ≤ g) → w.heap.size ≤ pb → (∀ g ∈ ownB v, w.heap.size ≤ g) → pb ∉ x.fp → (∀ g ∈ ownB v, g ∉ x.fp) →
   ∃ F, AtQ W pb x.b F (St.start pg) 10 ∧ ∀ g ∈ F, w.heap.size ≤ g from fun W x pb v A B S h1 h2 h3 h4 h5 => by
  obtain ⟨G, e, hc⟩ := good_start (2 + 4 * pg) (by omega) (by omega) A.hd.ok
  rw [n1] at e
  obtain ⟨g, cp, rest, rfl, BB, _⟩ := S.form (by omega) (by omega)
  refine ⟨_, ⟨⟨x, pb, g, cp⟩, 2 + 4 * pg, ⟨formC (D.zero (2 + 4 * pg)) (2 + 4 * pg), List.replicate fr Fr.nil, 0⟩, rfl, rfl, rfl, ⟨?_, ?_, A, h4, h5 g (by simp [ownB]), by simp; omega, by simp; omega, by simp; omega⟩, ⟨G, ?_⟩, e, hc⟩, ?_⟩
  ·rw [List.length_replicate]; exact B
  ·rw [List.length_replicate]; exact S
  ·refine ⟨fun f hf => ?_, fun i j f h hi hj hp h0 => ?_⟩
   ·rw [(List.mem_replicate.1 hf).2]
    exact ⟨rfl, rfl, .inl (by show (-1 : Int) < 0; omega)⟩
   ·have := (List.mem_replicate.1 (List.mem_of_getElem? hi)).2
    rw [this] at h0
    exact absurd h0 (by show ¬ (0 : Int) ≤ -1; omega)
  ·intro y hy
   simp only [Y.fp, List.mem_cons] at hy
   rcases hy with rfl | rfl | hy
   ·exact h2
   ·exact h3 _ (by simp [ownB])
   ·exact h1 y hy)
 clear f1 f2 p1
 unfold dp pp sp at *
 go_enter Tryz.func61, Tryz.ntmps61
 go_wp2_with fail
 refine KD.out.mono ?_
 rintro e w1 ⟨L, rfl, D1, hb1, hL⟩
 have O1 := Lib.hid hb1
 have D1 := Lib.hid D1
 have HL := Lib.hid hL
 clear hb1 hL
 go_wp2_with fail
 refine (KF.out w1 L D1.out).mono ?_
 rintro e w2 ⟨x, hxL, rfl, A2, o2, fx⟩
 have H2 := Lib.hid (show At w2 x (2 + 4 * pg) (formC (D.zero (2 + 4 * pg)) (2 + 4 * pg)) ∧ Below w.heap.size w w2 ∧ ∀ g ∈ x.fp, w.heap.size ≤ g from ⟨A2, O1.out.trans (o2.below_of O1.out.size HL.out), fun g hg => (fx g hg).elim (HL.out g) (fun h => by have := O1.out.size; omega)⟩)
 clear A2 o2 fx
 go_wp2_with fail
 refine (KP.out w2 x.b).mono ?_
 rintro e w3 ⟨pb, v, rfl, B3, S3, hb3, hp3, hf3⟩
 have H3 := Lib.hid (show At w3 x (2 + 4 * pg) (formC (D.zero (2 + 4 * pg)) (2 + 4 * pg)) ∧ Below w.heap.size w w3 ∧ Blk w3 pb 148 #[.pointer (some ⟨x.b, 0, none⟩), v, .int .i64 0] ∧ Slc w3 150 5 v fr (frc (List.replicate fr Fr.nil)) ∧ pb ∉ x.fp ∧ (∀ g ∈ ownB v, g ∉ x.fp) ∧ w.heap.size ≤ pb ∧ ∀ g ∈ ownB v, w.heap.size ≤ g from
  ⟨H2.out.1.below hb3, bstep H2.out.2.1 hb3, B3, S3, fun hF => by have := H2.out.1.lt _ hF; omega, fun g hg hF => by have := H2.out.1.lt _ hF; have := hf3 g hg; omega, by have := H2.out.2.1.size; omega, fun g hg => by have := hf3 g hg; have := H2.out.2.1.size; omega⟩)
 clear B3 S3 hb3 hp3 hf3
 go_wp2_with fail
 refine (KR.out _ _).mono ?_
 rintro e w4 ⟨rb, rv, rfl, _, _, hb4, _, _⟩
 have H4 := Lib.hid (bstep (belowAlloc (Below.refl w3.heap.size w3) _) hb4)
 clear hb4
 go_wp2_with fail
 go_ret2
 obtain ⟨a1, a2, a3, a4, a5, a6, a7, a8⟩ := H3.out
 obtain ⟨F, AQ, hF⟩ := HQ.out w3 x pb v a1 a3 a4 H2.out.2.2 a7 a8 a5 a6
 exact ⟨pb, x.b, rb, F, by first | rfl | simp, AQ.below H4.out, bstep a2 H4.out, hF⟩
end Go.Proofs.YtbelcgjbhpjnpaaGreat.Sh

/- chain's laws: awake. -/
namespace Go.Proofs.YtbelcgjbhpjnpaaGreat.Sh
open Go.RowKit Pk Dk Pg
attribute [local go_sem ↓] Go.wp_at_zero Go.wp_at_succ
theorem start_fresh (n : Nat) : AllFresh (St.start n) ∧ (St.start n).free = n ∧ (St.start n).now.length = 0 ∧ (St.start n).fresh = 0 := by
 refine ⟨fun x hx => by simp [St.start] at hx, ?_, rfl, rfl⟩
 show n - (0 + needT 0) - 0 = n
 simp [needT]
theorem longL_length (s : List UInt8) (n : Nat) : (longL s n).length = max s.length n := by
 unfold longL
 rw [List.length_append, List.length_map, List.length_range]
 omega
theorem postQ_new {w w' : World} {pb sb : Nat} {F : List Nat} {a : St} {k : Int} (h : PostQ w w' pb sb F a k) {B : Nat} (hB : B ≤ w.heap.size) (hF : ∀ g ∈ F, B ≤ g) : ∃ F', AtQ w' pb sb F' a k ∧ Below B w w' ∧ ∀ g ∈ F', B ≤ g := by
 obtain ⟨F', A, o, f⟩ := h
 exact ⟨F', A, o.below_of hB hF, fun g hg => (f g hg).elim (hF g) (fun h => by omega)⟩
set_option maxRecDepth 100000 in
set_option maxHeartbeats 2000000 in
theorem awake_any (w : World) : Calls Tryz.prog 62 #[] w fun e w' => e = .returned (.bool true) ∧ Below w.heap.size w w' := by
 have KB := Lib.hid (begun_any w 2 20 (by omega) (by omega) (by omega) (by omega))
 have KL := Lib.hid (fun (W : World) => long_any ⟨#[97]⟩ 300 W (by show 1 ≤ 100000; omega) (by omega))
 obtain ⟨V, hV⟩ : ∃ V : ByteArray, V = ⟨(longL (⟨#[97]⟩ : ByteArray).data.toList 300).toArray⟩ := ⟨_, rfl⟩
 rw [← hV] at KL
 have hvl : V.data.toList.length = 300 := by rw [hV]; show (longL _ 300).length = 300; rw [longL_length]; rfl
 have hvs : V.size = 300 := by rw [← hvl]; simp
 obtain ⟨s1, s2, s3, s4⟩ := start_fresh 20
 obtain ⟨a', p, L, r1, r2, r3, r4, r5, _⟩ := cput_good (v := V.data.toList) s1 (by omega) (by rw [s2, hvl]; decide) (by omega)
 have hL : L.length = 2 := by rw [r3, hvl]; decide
 have hW := cwalk_good r2 r3 (by omega)
 have KP := Lib.hid (fun (W : World) (pb sb : Nat) (F : List Nat) (hW : AtQ W pb sb F (St.start 20) 10) => cput_any hW V (by omega) (by omega))
 rw [r1] at KP
 have KG := Lib.hid (fun (W : World) (pb sb : Nat) (F : List Nat) (hW : AtQ W pb sb F a' 30) => cget_any hW p)
 have KM := Lib.hid (fun (W : World) (pb sb : Nat) (F : List Nat) (hW : AtQ W pb sb F a' 30) => cpages_any hW p)
 rw [hW] at KG KM
 have KN := Lib.hid (cneed_any 300 (by omega))
 rw [show cneedF 300 = 2 from rfl] at KN
 have hVV : (⟨V.data.toList.toArray⟩ : ByteArray) = V := by cases V; rfl
 dsimp only at KG KM KP
 rw [hVV] at KG
 rw [show (10 : Int) + 20 = 30 from rfl] at KP
 clear hV hvl hvs s1 s2 s3 s4 r1 r2 r3 r4 r5 hW hVV
 unfold pp at *
 go_enter Tryz.func62, Tryz.ntmps62
 go_wp2_with fail
 refine KB.out.mono ?_
 rintro e w1 ⟨pb, sb, rb, F, rfl, A1, hb1, hF⟩
 have H1 := Lib.hid (show AtQ w1 pb sb F (St.start 20) 10 ∧ Below w.heap.size w w1 ∧ ∀ g ∈ F, w.heap.size ≤ g from ⟨A1, hb1, hF⟩)
 clear A1 hb1 hF
 go_wp2_with fail
 refine (KL.out _).mono ?_
 rintro e w2 ⟨rfl, hb2⟩
 have H2 := Lib.hid (show AtQ w2 pb sb F (St.start 20) 10 ∧ Below w.heap.size w w2 from ⟨H1.out.1.below hb2, bstep H1.out.2.1 hb2⟩)
 clear hb2
 go_wp2_with fail
 refine (KP.out w2 pb sb F H2.out.1).mono ?_
 rintro e w3 ⟨rfl, q3⟩
 obtain ⟨F3, A3, b3, f3⟩ := postQ_new q3 H2.out.2.size H1.out.2.2
 have H3 := Lib.hid (show AtQ w3 pb sb F3 a' 30 ∧ Below w.heap.size w w3 ∧ ∀ g ∈ F3, w.heap.size ≤ g from ⟨A3, H2.out.2.trans b3, f3⟩)
 clear q3 A3 b3 f3
 go_wp2_with fail
 refine (KG.out w3 pb sb F3 H3.out.1).mono ?_
 rintro e w4 ⟨rfl, A4, o4⟩
 have H4 := Lib.hid (show AtQ w4 pb sb F3 a' 30 ∧ Below w.heap.size w w4 from ⟨A4, H3.out.2.1.trans (o4.below_of H3.out.2.1.size H3.out.2.2)⟩)
 clear A4 o4
 go_wp2_with fail
 refine (KM.out w4 pb sb F3 H4.out.1).mono ?_
 rintro e w5 ⟨A, n, c, rfl, S5, A5, o5, _⟩
 obtain ⟨A', c', e⟩ := slc_val S5
 injection e with e1 e2 e3
 subst e1 e2 e3
 have H5 := Lib.hid (show Below w.heap.size w w5 from H4.out.2.trans (o5.below_of H4.out.2.size H3.out.2.2))
 clear S5 A5 o5
 go_wp2_with fail
 refine (KL.out _).mono ?_
 rintro e w6 ⟨rfl, hb6⟩
 have H6 := Lib.hid (bstep H5.out hb6)
 clear hb6
 go_wp2_with fail
 refine (KN.out _).mono ?_
 rintro e w7 ⟨rfl, rfl⟩
 go_wp2_with fail
 go_ret
 exact ⟨by first | rfl | simp, H6.out⟩
set_option maxRecDepth 100000 in
set_option maxHeartbeats 2000000 in
theorem cput_big (w : World) (pb : Nat) (v : ByteArray) (hv : 1024 < v.size) :
  Calls Tryz.prog 64 #[pp pb, .string v] w fun e w' => e = .returned (.tuple #[.int .i64 0, .int .i64 4]) ∧ Below w.heap.size w w' := by
 have O0 := Lib.hid (belowAlloc (Below.refl w.heap.size w) (.cells #[.string v] 9))
 have B0 := Lib.hid (Blk.new w 9 #[.string v])
 have q0 := B0.out.cell_some (i := 0) rfl
 have hvI : (1024 : Int) < (v.size : Int) := by omega
 unfold pp
 go_enter Tryz.func64, Tryz.ntmps64
 go_wp2_with fail
 go_ret2
 exact ⟨by first | rfl | simp, O0.out⟩
theorem calls_nil {w : World} {f : FuncId} {args : Array Value} {v : Value} (h : Calls Tryz.prog f args w fun e w' => e = .returned v ∧ Below w.heap.size w w') : Calls Tryz.prog f args w fun e w' => e = .returned v ∧ Below w.heap.size w w' := h
set_option maxRecDepth 100000 in
set_option maxHeartbeats 2000000 in
theorem cput_nil (w : World) (v : ByteArray) :
  Calls Tryz.prog 64 #[.pointer none, .string v] w fun e w' => e = .returned (.tuple #[.int .i64 0, .int .i64 1]) ∧ Below w.heap.size w w' := by
 have O0 := Lib.hid (belowAlloc (Below.refl w.heap.size w) (.cells #[.string v] 9))
 go_enter Tryz.func64, Tryz.ntmps64
 go_wp2_with fail
 go_ret2
 exact ⟨by first | rfl | simp, O0.out⟩
theorem cwalk_nil (w : World) (p : Int) :
  Calls Tryz.prog 138 #[.pointer none, .int .i64 p] w fun e w' => e = .returned (.tuple #[.slice none 0 0, .string ⟨#[]⟩, .int .i64 1]) ∧ w = w' := by
 go_enter Tryz.func138, Tryz.ntmps138
 go_wp2_with fail
 go_ret3
 exact ⟨by first | rfl | simp, rfl⟩
theorem cget_nil (w : World) (p : Int) :
  Calls Tryz.prog 66 #[.pointer none, .int .i64 p] w fun e w' => e = .returned (.tuple #[.string ⟨#[]⟩, .int .i64 1]) ∧ w = w' := by
 have K := Lib.hid (cwalk_nil w p)
 go_enter Tryz.func66, Tryz.ntmps66
 go_wp2_with fail
 refine K.out.mono ?_
 rintro e w1 ⟨rfl, rfl⟩
 go_wp2_with fail
 go_ret2
 exact ⟨by first | rfl | simp, rfl⟩
theorem cpages_nil (w : World) (p : Int) :
  Calls Tryz.prog 131 #[.pointer none, .int .i64 p] w fun e w' => e = .returned (.tuple #[.slice none 0 0, .int .i64 1]) ∧ w = w' := by
 have K := Lib.hid (cwalk_nil w p)
 go_enter Tryz.func131, Tryz.ntmps131
 go_wp2_with fail
 refine K.out.mono ?_
 rintro e w1 ⟨rfl, rfl⟩
 go_wp2_with fail
 go_ret2
 exact ⟨by first | rfl | simp, rfl⟩
theorem cdrop_nil (w : World) (p : Int) :
  Calls Tryz.prog 65 #[.pointer none, .int .i64 p] w fun e w' => e = .returned (.int .i64 1) ∧ w = w' := by
 have K := Lib.hid (cwalk_nil w p)
 go_enter Tryz.func65, Tryz.ntmps65
 go_wp2_with fail
 refine K.out.mono ?_
 rintro e w1 ⟨rfl, rfl⟩
 go_wp2_with fail
 go_ret
 exact ⟨by first | rfl | simp, rfl⟩
/-- the document's number of pages -/
theorem rneed_any (n : Int) (h0 : -9223372036854775808 ≤ n) (h : n ≤ 1000000) (w : World) :
  Calls Tryz.prog 177 #[.int .i64 n] w fun e w' => e = .returned (.int .i64 (cneedF n)) ∧ w = w' := by
 go_enter Tryz.func177, Tryz.ntmps177
 go_wp2_with fail
 go_loop [0, 3] (fun nv kv => ∃ j : Nat, nv = .int .i64 (n - 228 * (j : Int)) ∧ kv = .int .i64 ((j : Int) + 1) ∧ (0 < j → 228 * (j : Int) < n)) (fun nv _ => (intOf nv).toNat)
 case atStart => exact ⟨0, by simp, by simp, by omega⟩
 case round =>
  obtain ⟨j, rfl, rfl, hj⟩ := hrel
  by_cases hgt : 228 < n - 228 * (j : Int)
  ·have e1 : IntKind.i64.wrap (n - 228 * (j : Int) - 228) = n - 228 * ((j + 1 : Nat) : Int) := by rw [show n - 228 * (j : Int) - 228 = n - 228 * ((j + 1 : Nat) : Int) by omega]; exact IntWalk.i64_in _ (by omega)
   have e2 : IntKind.i64.wrap ((j : Int) + 1 + 1) = ((j + 1 : Nat) : Int) + 1 := by rw [show (j : Int) + 1 + 1 = ((j + 1 : Nat) : Int) + 1 by omega]; exact IntWalk.i64_in _ (by omega)
   go_wp2_with fail
   go_round
   case rel => exact ⟨j + 1, by go_num, by go_num, fun _ => by omega⟩
   case measure => simp [intOf]; omega
  ·have he : cneedF n = (j : Int) + 1 := by
    unfold cneedF
    rcases Nat.eq_zero_or_pos j with rfl | h
    ·omega
    ·have := hj h; omega
   go_wp2_with fail
   go_ret
   exact ⟨by first | rfl | (simp [he]; done) | simp_all, rfl⟩
end Go.Proofs.YtbelcgjbhpjnpaaGreat.Sh
