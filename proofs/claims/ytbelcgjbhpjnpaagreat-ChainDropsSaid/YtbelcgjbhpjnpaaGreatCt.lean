/- chain's laws: what was dropped leaves nothing. -/
import Derived.Test.YtbelcgjbhpjnpaaGreatCv
import Derived.Test.YtbelcgjbhpjnpaaGreatCu
import Derived.Test.YtbelcgjbhpjnpaaGreatPv
set_option linter.all false
set_option linter.unusedVariables false
set_option linter.unusedSimpArgs false
namespace Go.Proofs.YtbelcgjbhpjnpaaGreat.Sh
open Go.RowKit Go.ChangeShapes Go.WideShapes Go.Deep Pk Dk Pg
attribute [local go_sem ↓] Go.wp_at_zero Go.wp_at_succ
set_option maxRecDepth 100000 in
theorem pacts16_of {H : Type} {enc : TypeId × Value → H} {w : World} {base : Nat} {v : Value} {d : DataW H} {ps : List MemPlace} (hok : Value.okWide Tryz.prog w .any base 100 v) (h : DataW.Trod enc Tryz.prog w 0 (fun _ => true) true 100 v d ps) :
  ∃ (A : Option Addr) (n c : Nat) (F : Nat → Sv), v = .slice A n c ∧ n ≤ 9223372036854775807 ∧ SvActs w A n F := by
 obtain ⟨a0, len, cap, rfl⟩ := Go.WideShapes.okWide_slice Tryz.underlying100 hok
 obtain ⟨fuel, hf⟩ := h
 have hce : Tryz.prog.cellsOf 102 = 3 := by kernel_rfl
 rcases open_slice Tryz.underlying100 hf with ⟨hcs, _⟩ | ⟨a, len', cap', m, n, D, Pl, hcs, _, hl, hm, hmm, _, hall⟩
 ·simp [Value.cells] at hcs
  obtain ⟨rfl, rfl, rfl⟩ := hcs
  exact ⟨none, 0, 0, fun _ => default, rfl, Nat.zero_le _, fun k hk => absurd hk (by omega)⟩
 ·simp [Value.cells] at hcs
  obtain ⟨rfl, rfl, rfl⟩ := hcs
  simp at hmm
  have each : ∀ k, k < len → ∃ x : Sv, SvAt w (a.add (k * 3)) x := by
   intro k hk
   obtain ⟨cs', hcs, htr⟩ := hall k (by omega)
   rw [hce] at hcs
   obtain ⟨_, _, hget⟩ := World.cells?_some hcs
   obtain ⟨kd, l, s, rfl, _, _⟩ := pact_view Tryz.underlying102 (by kernel_rfl) rfl rfl rfl (by kernel_rfl) (by kernel_rfl) (by kernel_rfl) Tryz.underlying3 Tryz.underlying3 Tryz.underlying9 htr
   have g0 := hget 0 (by omega)
   have g1 := hget 1 (by omega)
   have g2 := hget 2 (by omega)
   rw [add_zerov] at g0
   rw [add_atv _ _ _ (by omega)] at g1 g2
   exact ⟨⟨kd, l, s⟩, g0, g1, g2⟩
  obtain ⟨F, hF⟩ := choose_ltv (p := fun k x => SvAt w (a.add (k * 3)) x) each
  exact ⟨some a, len, cap, F, rfl, by unfold maxLen at hm; omega, fun k hk => ⟨a, rfl, hF k hk⟩⟩
set_option maxRecDepth 100000 in
set_option maxHeartbeats 2000000 in
theorem begun16_any (w : World) (fr pg : Nat) (f1 : 1 ≤ fr) (f2 : fr ≤ 32) (p1 : 1 ≤ pg) (p2 : pg ≤ 1000) :
  Calls Tryz.prog 61 #[.int .i64 (fr : Nat), .int .i64 (pg : Nat)] w fun e w' => ∃ pq sb xq rs, e = .returned (.tuple #[pp pq, rp xq]) ∧ CX w w' pq sb (St.start pg) 10 xq rs (2 + 4 * pg) 1 := by
 have n1 : pagesF (2 + 4 * pg) = pg := by unfold pagesF manyF; omega
 have e1 : IntKind.i64.wrap (4 * (pg : Int)) = 4 * (pg : Int) := IntWalk.i64_in _ (by omega)
 have e2 : IntKind.i64.wrap (2 + 4 * (pg : Int)) = ((2 + 4 * pg : Nat) : Int) := by rw [show 2 + 4 * (pg : Int) = ((2 + 4 * pg : Nat) : Int) by omega]; exact IntWalk.i64_in _ (by omega)
 have KD := Lib.hid (new_yes (2 + 4 * pg) w (by omega) (by omega))
 have KF := Lib.hid (fun (W : World) (L : Dk.Loc) (hW : DiskAt W L (2 + 4 * pg) (D.zero (2 + 4 * pg))) => format_any hW (by omega) rfl rfl (by show (0 : Int) ≤ 1000; omega))
 have KP := Lib.hid (fun (W : World) (b : Nat) => pnew_any (w := W) b fr f1 f2)
 have KR := Lib.hid (fun (W : World) (b : Nat) => rnew15_any2 (w := W) b fr f2)
 have HQ := Lib.hid (show ∀ (W W2 : World) (x : X) (pq xq : Nat) (v rv : Value), At W x (2 + 4 * pg) (formC (D.zero (2 + 4 * pg)) (2 + 4 * pg)) → Blk W pq 148 #[sp x.b, v, .int .i64 0] → Slc W 150 5 v fr (frc (List.replicate fr Fr.nil)) → (∀ g ∈ x.fp, w.heap.size ≤ g) → w.heap.size ≤ pq → (∀ g ∈ ownB v, w.heap.size ≤ g) → pq ∉ x.fp → (∀ g ∈ ownB v, g ∉ x.fp) →
   Below w.heap.size w W → Below (W.alloc (.cells #[.int .i64 (pg : Nat), .slice none 0 0, .slice none 0 0, .int .i64 1, .bool false] 47)).heap.size (W.alloc (.cells #[.int .i64 (pg : Nat), .slice none 0 0, .slice none 0 0, .int .i64 1, .bool false] 47)) W2 → Blk W2 xq 86 #[rp W.heap.size, rv, .int .i64 0] → Slc W2 88 5 rv fr (frc (List.replicate fr Fr.nil)) → w.heap.size ≤ xq →
   CX w W2 pq x.b (St.start pg) 10 xq W.heap.size (2 + 4 * pg) 1 from fun W W2 x pq xq v rv A B S h1 h2 h3 h4 h5 hb hb2 BX SX h6 => by
  obtain ⟨g, cp, rest, rfl, BB, _⟩ := S.form (by omega) (by omega)
  obtain ⟨gd, e, hc, hr, _⟩ := form_start2 (2 + 4 * pg) (by omega) (by omega) A.hd.ok
  rw [n1] at e
  have z : Zc (formC (D.zero (2 + 4 * pg)) (2 + 4 * pg)) (2 + 4 * pg) (St.start pg) 1 := ⟨gd, hr, ⟨0, by rw [pad_zero, e]⟩, by omega, by show (1 : Int) ≤ (1 : Nat); omega⟩
  have hal := Rt.belowAlloc (Below.refl W.heap.size W) (.cells #[.int .i64 (pg : Nat), .slice none 0 0, .slice none 0 0, .int .i64 1, .bool false] 47)
  have hal2 : Below W.heap.size W W2 := bstep hal hb2
  have hnil : ∀ f ∈ List.replicate fr Fr.nil, f.page < 0 := fun f hf => by rw [List.eq_of_mem_replicate hf]; show (-1 : Int) < 0; omega
  have H : Hq (QS.start fr pg) (2 + 4 * pg) 1 := ⟨⟨_, z⟩, fun f hf => by rw [List.eq_of_mem_replicate hf]; exact Fb.nil, by show 1 ≤ (List.replicate fr Fr.nil).length; rw [List.length_replicate]; exact f1, by show (List.replicate fr Fr.nil).length ≤ 32; rw [List.length_replicate]; exact f2, by show 0 < (List.replicate fr Fr.nil).length; rw [List.length_replicate]; exact f1, by show ([] : List Sl14).length ≤ 512; simp⟩
  have BS : Blk W2 W.heap.size 47 #[.int .i64 (pg : Nat), .slice none 0 0, .slice none 0 0, .int .i64 1, .bool false] := Blk.below (Blk.new W _ _) hb2 (Blk.new W _ _).lt
  refine ⟨⟨_, ⟨⟨x, pq, g, cp⟩, 2 + 4 * pg, ⟨formC (D.zero (2 + 4 * pg)) (2 + 4 * pg), List.replicate fr Fr.nil, 0⟩, rfl, rfl, rfl, AtP.below (w := W) ⟨?_, ?_, A, h4, h5 g (by simp [ownB]), by simp; omega, by simp; omega, by simp; omega⟩ hal2, ⟨gd, ?_⟩, e, hc⟩, ?_⟩, ⟨QS.start fr pg, ⟨rv, .slice none 0 0, .slice none 0 0, BX, by show Slc W2 _ 5 rv (List.replicate fr Fr.nil).length _; rw [List.length_replicate]; exact SX, ⟨BS, Slc.nil _ _ _, Slc.nil _ _ _, by simp [QS.start, St.start], by simp [QS.start, St.start], by show pg ≤ 1024; omega, by show (0 : Int) ≤ 1 ∧ (1 : Int) ≤ 3000000000000; omega⟩, H.l1, H.l2, H.lh⟩, H, fun f hf h0 => absurd (hnil f hf) (by omega)⟩, bstep hb hal2, h6, hb.size⟩
  ·rw [List.length_replicate]; exact B
  ·rw [List.length_replicate]; exact S
  ·refine ⟨fun f hf => ?_, fun i j f h hi hj hp h0 => absurd (hnil f (List.mem_of_getElem? hi)) (by omega)⟩
   rw [List.eq_of_mem_replicate hf]
   exact ⟨rfl, rfl, .inl (by show (-1 : Int) < 0; omega)⟩
  ·intro y hy
   simp only [Y.fp, List.mem_cons] at hy
   rcases hy with rfl | rfl | hy
   ·exact h2
   ·exact h3 _ (by simp [ownB])
   ·exact h1 y hy)
 clear f1 f2 p1
 unfold dp pp sp rp at *
 go_enter Tryz.func61, Tryz.ntmps61
 go_wp2_with fail
 refine KD.out.mono ?_
 rintro e w1 ⟨L, rfl, D1, hb1, hL⟩
 have O1 := Lib.hid hb1
 have D1 := Lib.hid D1
 have HL := Lib.hid hL
 clear hb1 hL
 go_wp2_with fail
 refine (KF.out w1 L D1.out).mono ?_
 rintro e w2 ⟨x, hxL, rfl, A2, o2, fx⟩
 have H2 := Lib.hid (show At w2 x (2 + 4 * pg) (formC (D.zero (2 + 4 * pg)) (2 + 4 * pg)) ∧ Below w.heap.size w w2 ∧ ∀ g ∈ x.fp, w.heap.size ≤ g from ⟨A2, O1.out.trans (o2.below_of O1.out.size HL.out), fun g hg => (fx g hg).elim (HL.out g) (fun h => by have := O1.out.size; omega)⟩)
 clear A2 o2 fx
 go_wp2_with fail
 refine (KP.out w2 x.b).mono ?_
 rintro e w3 ⟨pq, v, rfl, B3, S3, hb3, hp3, hf3⟩
 have H3 := Lib.hid (show At w3 x (2 + 4 * pg) (formC (D.zero (2 + 4 * pg)) (2 + 4 * pg)) ∧ Below w.heap.size w w3 ∧ Blk w3 pq 148 #[.pointer (some ⟨x.b, 0, none⟩), v, .int .i64 0] ∧ Slc w3 150 5 v fr (frc (List.replicate fr Fr.nil)) ∧ pq ∉ x.fp ∧ (∀ g ∈ ownB v, g ∉ x.fp) ∧ w.heap.size ≤ pq ∧ ∀ g ∈ ownB v, w.heap.size ≤ g from
  ⟨H2.out.1.below hb3, bstep H2.out.2.1 hb3, B3, S3, fun hF => by have := H2.out.1.lt _ hF; omega, fun g hg hF => by have := H2.out.1.lt _ hF; have := hf3 g hg; omega, by have := H2.out.2.1.size; omega, fun g hg => by have := hf3 g hg; have := H2.out.2.1.size; omega⟩)
 clear B3 S3 hb3 hp3 hf3
 go_wp2_with fail
 refine (KR.out _ _).mono ?_
 rintro e w4 ⟨xq, rv, rfl, B4, S4, hb4, h4, _⟩
 obtain ⟨a1, a2, a3, a4, a5, a6, a7, a8⟩ := H3.out
 have HF := Lib.hid (HQ.out w3 w4 x pq xq v rv a1 a3 a4 H2.out.2.2 a7 a8 a5 a6 a2 hb4 B4 S4 (by have := a2.size; simp at h4; omega))
 clear hb4 B4 S4 h4 a1 a2 a3 a4 a5 a6 a7 a8
 go_wp2_with fail
 go_ret2
 exact ⟨pq, x.b, xq, _, by first | rfl | simp, HF.out⟩
set_option maxRecDepth 100000 in
set_option maxHeartbeats 4000000 in
theorem chainDrops_any {w : World} (A : Option Addr) (m cc : Nat) (F : Nat → Sv) (hm : m ≤ 9223372036854775807) (hA : SvActs w A m F) (s : ByteArray) :
  Calls Tryz.prog 12 #[.slice A m cc, .string s] w fun e w' => e = .returned (.bool true) ∧ Below w.heap.size w w' := by
 have KB := Lib.hid (begun16_any w 3 60 (by omega) (by omega) (by omega) (by omega))
 rw [show 2 + 4 * 60 = 242 from rfl] at KB
 have KA := Lib.hid awake_any
 have HA := Lib.hid (fun (W : World) (hb : Below w.heap.size w W) => hA.below hb)
 have K1 := Lib.hid (fun (W : World) (pb sb xq rs i : Nat) (a a' : St) (p e0 : Int) (S : CX w W pb sb a (10 + 20 * (i : Nat)) xq rs 242 (1 + 10 * i)) (hi : i < 8) (kd l : Int) (v : ByteArray) (h0 : kd = 0 ∨ kd = 1 ∨ kd = 2) (hv : v.size ≤ 1024) (hr : a.cputF v.data.toList = (a', p, e0)) => S.do_put (by omega) (by omega) kd l v h0 hv hr)
 have K2 := Lib.hid (fun (W : World) (pb sb xq rs i : Nat) (a : St) (S : CX w W pb sb a (10 + 20 * (i : Nat)) xq rs 242 (1 + 10 * i)) (hi : i < 8) (kd l : Int) (v : ByteArray) (h0 : kd < 0) => S.do_neg (by omega) kd l v h0)
 have KS := Lib.hid (fun (W : World) (pb sb xq rs K : Nat) (a : St) (k : Int) (S : CX w W pb sb a k xq rs 242 K) => S.store)
 have KC := Lib.hid (fun (W : World) (pb sb xq rs K : Nat) (a : St) (k : Int) (S : CX w W pb sb a k xq rs 242 K) => S.count)
 have G0 := Lib.hid G16.start
 clear hA
 unfold pp rp at *
 by_cases hs : 1024 < s.size
 ·have hsI : (1024 : Int) < (s.size : Int) := by omega
  go_enter Tryz.func12, Tryz.ntmps12
  go_wp2_with fail
  refine KB.out.mono ?_
  rintro e w1 ⟨pb, sb, xq, rs, rfl, P1⟩
  have P1 := Lib.hid P1
  go_wp2_with fail
  refine (KA.out w1).mono ?_
  rintro e w2 ⟨rfl, hb2⟩
  have P2 := Lib.hid (P1.out.below hb2)
  clear hb2
  go_wp2_with fail
  refine (KA.out w2).mono ?_
  rintro e w3 ⟨rfl, hb3⟩
  have P3 := Lib.hid (P2.out.below hb3)
  clear hb3
  go_wp2_with fail
  go_ret
  exact ⟨by first | rfl | simp, P3.out.b⟩
 ·have hsI : ¬ (1024 : Int) < (s.size : Int) := by omega
  go_enter Tryz.func12, Tryz.ntmps12
  go_wp2_with fail
  refine KB.out.mono ?_
  rintro e w1 ⟨pb, sb, xq, rs, rfl, P1⟩
  have P1 := Lib.hid P1
  go_wp2_with fail
  refine (KA.out w1).mono ?_
  rintro e w2 ⟨rfl, hb2⟩
  have P2 := Lib.hid (P1.out.below hb2)
  clear hb2
  go_wp2_with fail
  go_loopw [7] (fun iv wr => ∃ (i : Nat) (a : St), i ≤ 8 ∧ iv = .int .i64 i ∧ Hid (CX w wr pb sb a (10 + 20 * (i : Nat)) xq rs 242 (1 + 10 * i) ∧ G16 a i)) (fun iv _ => 8 - (intOf iv).toNat)
  case atStart => exact ⟨0, _, Nat.zero_le _, rfl, Lib.hid ⟨P2.out, G0.out⟩⟩
  case round =>
   obtain ⟨i, a, hi, rfl, HP⟩ := hrel
   by_cases h1 : i < m ∧ i < 8
   ·obtain ⟨h1, h2⟩ := h1
    have h1I : (i : Int) < (m : Int) := by omega
    have h2I : (i : Int) < 8 := by omega
    obtain ⟨ad, rfl, hSa⟩ := HA.out wr HP.out.1.b i h1
    obtain ⟨c0, c1, c2⟩ := hSa
    generalize F i = sa at c0 c1 c2
    obtain ⟨kd, l, v⟩ := sa
    dsimp only at c0 c1 c2
    have ei : IntKind.i64.wrap ((i : Int) + 1) = ((i + 1 : Nat) : Int) := IntWalk.i64_in _ (by omega)
    by_cases hk : kd < 3
    ·by_cases hv : v.size < 1000
     ·have hvI : (v.size : Int) < 1000 := by omega
      obtain ⟨a', HD⟩ : ∃ a', Hid (G16 a' (i + 1) ∧ Calls Tryz.prog 63 #[.pointer (some ⟨pb, 0, none⟩), .pointer (some ⟨xq, 0, none⟩), .agg #[.int .i64 kd, .int .i64 l, .string v]] wr fun e W => RB16 e ∧ CX w W pb sb a' (10 + 20 * ((i + 1 : Nat) : Int)) xq rs 242 (1 + 10 * (i + 1))) := by
       by_cases hneg : kd < 0
       ·refine ⟨a, Lib.hid ⟨HP.out.2.next, (K2.out wr pb sb xq rs i a HP.out.1 h2 kd l v hneg).mono ?_⟩⟩
        rintro e W ⟨r, S⟩
        exact ⟨r, S.more (by omega) (by omega)⟩
       ·obtain ⟨a', p, e1, G⟩ := HP.out.2.put (by omega) v.data.toList (by simp; omega)
        refine ⟨a', Lib.hid ⟨G, (K1.out wr pb sb xq rs i a a' p 0 HP.out.1 h2 kd l v (by omega) (by omega) e1).mono ?_⟩⟩
        rintro e W ⟨r, S⟩
        exact ⟨r, S.more (by omega) (by omega)⟩
      have HG := Lib.hid HD.out.1
      have HD := Lib.hid HD.out.2
      go_wp2_with fail
      refine HD.out.mono ?_
      rintro e w3 ⟨⟨β, rfl⟩, S3⟩
      have S3 := Lib.hid (And.intro S3 HG.out)
      clear c0 c1 c2 HD HG
      go_wp2_with fail
      go_roundw
      case rel => exact ⟨i + 1, a', by omega, by go_num, S3⟩
      case measure => simp [intOf]; omega
     ·have hvI : ¬ (v.size : Int) < 1000 := by omega
      have H3 := Lib.hid (show CX w wr pb sb a (10 + 20 * ((i + 1 : Nat) : Int)) xq rs 242 (1 + 10 * (i + 1)) ∧ G16 a (i + 1) from ⟨HP.out.1.more (by omega) (by omega), HP.out.2.next⟩)
      go_wp2_with fail
      go_roundw
      case rel => exact ⟨i + 1, a, by omega, by go_num, H3⟩
      case measure => simp [intOf]; omega
    ·have H3 := Lib.hid (show CX w wr pb sb a (10 + 20 * ((i + 1 : Nat) : Int)) xq rs 242 (1 + 10 * (i + 1)) ∧ G16 a (i + 1) from ⟨HP.out.1.more (by omega) (by omega), HP.out.2.next⟩)
     go_wp2_with fail
     go_roundw
     case rel => exact ⟨i + 1, a, by omega, by go_num, H3⟩
     case measure => simp [intOf]; omega
   ·obtain ⟨a1, p, a2, r1, r2, r3, r4⟩ := HP.out.2.drop hi s.data.toList (by simp; omega)
    have KP := Lib.hid (fun (W : World) (S : CX w W pb sb a (10 + 20 * (i : Nat)) xq rs 242 (1 + 10 * i)) => S.put s (by omega) (by omega) r1)
    have KD := Lib.hid (fun (W : World) (S : CX w W pb sb a1 (10 + 20 * (i : Nat) + 20) xq rs 242 (1 + 10 * i)) => S.drop p r2)
    have KG := Lib.hid (fun (W : World) (S : CX w W pb sb a2 (10 + 20 * (i : Nat) + 20) xq rs 242 (1 + 10 * i)) => S.get p)
    rw [r4] at KG
    have HC2 := Lib.hid (fun (W : World) (S : CX w W pb sb a2 (10 + 20 * (i : Nat) + 20) xq rs 242 (1 + 10 * i)) => S.count)
    rw [r3] at HC2
    have HC1 := Lib.hid (fun (W : World) (S : CX w W pb sb a (10 + 20 * (i : Nat)) xq rs 242 (1 + 10 * i)) => S.count)
    generalize a.free = fr at HC1 HC2
    clear r3
    clear r1 r2 r4
    by_cases h2 : i < m
    ·have h2I : (i : Int) < (m : Int) := by omega
     have h3I : ¬ (i : Int) < 8 := by omega
     clear h1
     go_wp2_with fail
     refine (KS.out wr pb sb xq rs _ a _ HP.out.1).mono ?_
     rintro e w3 ⟨rfl, rfl⟩
     go_wp2_with fail
     refine (HC1.out wr HP.out.1).mono ?_
     rintro e w3 ⟨⟨x1, x2, x3, rfl⟩, S3⟩
     have S3 := Lib.hid S3
     go_wp2_with fail
     refine (KP.out w3 S3.out).mono ?_
     rintro e w4 ⟨rfl, S4, _⟩
     have S4 := Lib.hid S4
     go_wp2_with fail
     refine (KD.out w4 S4.out).mono ?_
     rintro e w5 ⟨rfl, S5, _⟩
     have S5 := Lib.hid S5
     go_wp2_with fail
     refine (KS.out w5 pb sb xq rs _ a2 _ S5.out).mono ?_
     rintro e w6 ⟨rfl, rfl⟩
     go_wp2_with fail
     refine (HC2.out w5 S5.out).mono ?_
     rintro e w6 ⟨⟨y1, y2, y3, rfl⟩, S6⟩
     have S6 := Lib.hid S6
     go_wp2_with fail
     refine (KG.out w6 S6.out).mono ?_
     rintro e w7 ⟨rfl, S7, _⟩
     have S7 := Lib.hid S7
     go_wp2_with fail
     go_ret
     exact ⟨by first | rfl | simp, S7.out.b⟩
    ·have h2I : ¬ (i : Int) < (m : Int) := by omega
     clear h1
     go_wp2_with fail
     refine (KS.out wr pb sb xq rs _ a _ HP.out.1).mono ?_
     rintro e w3 ⟨rfl, rfl⟩
     go_wp2_with fail
     refine (HC1.out wr HP.out.1).mono ?_
     rintro e w3 ⟨⟨x1, x2, x3, rfl⟩, S3⟩
     have S3 := Lib.hid S3
     go_wp2_with fail
     refine (KP.out w3 S3.out).mono ?_
     rintro e w4 ⟨rfl, S4, _⟩
     have S4 := Lib.hid S4
     go_wp2_with fail
     refine (KD.out w4 S4.out).mono ?_
     rintro e w5 ⟨rfl, S5, _⟩
     have S5 := Lib.hid S5
     go_wp2_with fail
     refine (KS.out w5 pb sb xq rs _ a2 _ S5.out).mono ?_
     rintro e w6 ⟨rfl, rfl⟩
     go_wp2_with fail
     refine (HC2.out w5 S5.out).mono ?_
     rintro e w6 ⟨⟨y1, y2, y3, rfl⟩, S6⟩
     have S6 := Lib.hid S6
     go_wp2_with fail
     refine (KG.out w6 S6.out).mono ?_
     rintro e w7 ⟨rfl, S7, _⟩
     have S7 := Lib.hid S7
     go_wp2_with fail
     go_ret
     exact ⟨by first | rfl | simp, S7.out.b⟩
end Go.Proofs.YtbelcgjbhpjnpaaGreat.Sh
