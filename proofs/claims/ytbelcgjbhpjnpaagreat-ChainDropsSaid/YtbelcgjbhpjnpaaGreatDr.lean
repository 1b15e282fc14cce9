/- layer 15's begun: a pool and the document's at the start. -/
import Derived.Test.YtbelcgjbhpjnpaaGreatDq
import Derived.Test.YtbelcgjbhpjnpaaGreatMa
set_option linter.all false
set_option linter.unusedVariables false
set_option linter.unusedSimpArgs false
namespace Go.Proofs.YtbelcgjbhpjnpaaGreat.Sh
open Go.RowKit Pk Dk Pg
attribute [local go_sem ↓] Go.wp_at_zero Go.wp_at_succ
theorem zeros64b : fillF [] = List.replicate 64 0 := by unfold fillF; simp
theorem rooted_start2 (n : Nat) (h1 : 2 ≤ n) (hn : n ≤ 4096) : Rooted (formC (D.zero n) n).d n 1 0 [] [] ∧ Twin (formC (D.zero n) n).d 0 1 := by
 have z : (D.zero n).down = false ∧ (D.zero n).armed = 0 := ⟨rfl, rfl⟩
 have ok0 := zero_ok n hn
 obtain ⟨w1, w2, w3⟩ := write_fine (d := D.zero n) (n := n) (k := 0) z.1 z.2 (by omega) root1
 have ok1 := ok0.write ((0 : Nat) : Int) root1
 have n1 := write_now ok0 0 (by omega) root1 w1
 obtain ⟨v1, v2, v3⟩ := write_fine (d := ((D.zero n).writeF n ((0 : Nat) : Int) root1).1) (n := n) (k := 1) w2 w3 (by omega) []
 have n2 := write_now ok1 1 (by omega) [] v1
 obtain ⟨s1, s2, s3, s4⟩ := sync_fine v2 v3
 have hd : (formC (D.zero n) n).d = ((((D.zero n).writeF n ((0 : Nat) : Int) root1).1.writeF n ((1 : Nat) : Int) []).1.syncF).1 := rfl
 have e0 : sec (formC (D.zero n) n).d.now 0 = root1 := by
  rw [hd, s4, n2 0 (by omega), if_neg (by omega), n1 0 (by omega), if_pos rfl]
  exact fill_same _ (Rt.rootL_length 1 0 [] (by simp))
 have e1 : sec (formC (D.zero n) n).d.now 1 = List.replicate 64 0 := by
  rw [hd, s4, n2 1 (by omega), if_pos rfl, zeros64b]
 have hdec : Rt.decEp (List.replicate 64 0) < 1 := by decide +kernel
 refine ⟨⟨h1, right1, .inl rfl, e0, fun _ => ?_, fun i x hx => by simp at hx, fun j _ _ => by rw [hd]; exact sync_loose s1 j⟩, ?_⟩
 ·show Rt.decEp (sec (formC (D.zero n) n).d.now 1) < 1
  rw [e1]; exact hdec
 ·unfold Twin
  show (sec (formC (D.zero n) n).d.now 1).take 8 = (sec (formC (D.zero n) n).d.now 1).drop 56 ∧ Rt.decEp (sec (formC (D.zero n) n).d.now 1) < 1
  rw [e1]
  exact ⟨by simp, hdec⟩
theorem form_start2 (n : Nat) (h1 : 1 ≤ pagesF n) (hn : n ≤ 4096) (hok : (formC (D.zero n) n).d.Ok n) : Good (formC (D.zero n) n) n ∧ (formC (D.zero n) n).absF n = St.start (pagesF n) ∧ (formC (D.zero n) n).d.calls ≤ 10 ∧ Rooted (formC (D.zero n) n).d n 1 0 [] [] ∧ Twin (formC (D.zero n) n).d 0 1 := by
 obtain ⟨g, e, hc⟩ := good_start n h1 hn hok
 have hr := rooted_start2 n (by unfold pagesF manyF at h1; omega) hn
 exact ⟨g, e, hc, hr⟩
theorem ints_of2 {w : World} {A : Option Addr} {n c : Nat} {l : List Int} (S : Slc w 3 1 (.slice A n c) n (nvs' l)) : Rt.IntsAt w A n l := by
 have hl := S.1
 rw [nvs'_length] at hl
 refine ⟨by omega, fun k x hx => ?_⟩
 rcases S.2 with ⟨h1, h2⟩ | ⟨g, cap, rest, h1, B, _⟩
 ·have := (List.getElem?_eq_some_iff.1 hx).1
  omega
 ·injection h1 with h1 h2 h3
  refine ⟨_, h1, ?_⟩
  rw [show (⟨g, 0, none⟩ : Addr).add k = ⟨g, k, none⟩ by unfold Addr.add; split <;> simp_all]
  have hk := (List.getElem?_eq_some_iff.1 hx).1
  exact B.cell_some (by rw [List.getElem?_toArray, List.getElem?_append_left (by simpa using hk)]; unfold nvs'; rw [List.getElem?_map, hx]; rfl)
section
attribute [local go_sem ↓] exec_app
theorem info_rframe2 : (Tryz.prog.info? 88).map (fun i => (i.zero, i.size, i.bytes)) = some (some (.agg #[.int .i64 0, .string ⟨#[]⟩, .int .i64 0, .bool false, .bool false]), 5, 40) := by kernel_rfl
theorem append_rnil2 {w : World} {v : Value} {n : Nat} {l : List Fr} (h : Slc w 88 5 v n (frc l)) (hn : n ≤ 1000) :
  ∃ v' w', appRun Tryz.prog 84 84 (w.alloc (.cells #[.int .i64 (-1), .string ⟨#[]⟩, .int .i64 0, .bool false, .bool false] 88)) v (.slice (some ⟨w.heap.size, 0, none⟩) 1 1) = .ok v' w' ∧ Slc w' 88 5 v' (n + 1) (frc (l ++ [Fr.nil])) ∧ Only (ownB v) w w' ∧ (∀ g ∈ ownB v', g ∈ ownB v ∨ w.heap.size ≤ g) := by
 obtain ⟨i0, hi, hz0, hz1, hz2⟩ := info_parts info_rframe2
 obtain ⟨v', w', h1, h2, h3, h4⟩ := append_slc (P := Tryz.prog) (h.alloc (.cells #[.int .i64 (-1), .string ⟨#[]⟩, .int .i64 0, .bool false, .bool false] 88)) 84 84 i0 _ 40 Tryz.underlying84 hi hz0 hz1 hz2 rfl (by omega)
  ⟨w.heap.size, 0, none⟩ 1 1 Fr.nil.cs rfl (cells_at (l := Fr.nil.cs) (Blk.new w _ #[.int .i64 (-1), .string ⟨#[]⟩, .int .i64 0, .bool false, .bool false]) 0 _ (by intro j u hu; rw [Nat.zero_add]; exact hu)) (by intro u hu; simp [Fr.cs, Fr.nil] at hu; rcases hu with rfl | rfl | rfl | rfl <;> rfl) (by unfold maxLen; omega) (by omega)
 refine ⟨v', w', h1, ?_, ((Only.refl _ _).alloc _).trans_of h3 (fun x hx _ => hx), fun g hg => (h4 g hg).imp id (fun h => by simp at h; omega)⟩
 rw [frc_append]
 exact h2
set_option maxRecDepth 100000 in
set_option maxHeartbeats 2000000 in
theorem rnew15_any2 {w : World} (sb k : Nat) (h2 : k ≤ 32) :
  Calls Tryz.prog 110 #[.pointer (some ⟨sb, 0, none⟩), .int .i64 (k : Nat)] w fun e w' => ∃ pb v, e = .returned (.pointer (some ⟨pb, 0, none⟩)) ∧ Blk w' pb 86 #[.pointer (some ⟨sb, 0, none⟩), v, .int .i64 0] ∧ Slc w' 88 5 v k (frc (List.replicate k Fr.nil)) ∧ Below w.heap.size w w' ∧ w.heap.size ≤ pb ∧ ∀ g ∈ ownB v, w.heap.size ≤ g := by
 have O0 := Lib.hid (belowAlloc (Below.refl w.heap.size w) (.cells #[.pointer (some ⟨sb, 0, none⟩), .slice none 0 0, .int .i64 0] 86))
 have B0 := Lib.hid (Blk.new w 86 #[.pointer (some ⟨sb, 0, none⟩), .slice none 0 0, .int .i64 0])
 go_enter Tryz.func110, Tryz.ntmps110
 go_wp2_with fail
 generalize hwa : w.alloc (.cells #[.pointer (some ⟨sb, 0, none⟩), .slice none 0 0, .int .i64 0] 86) = wa at *
 clear hwa
 go_loopw [6] (fun iv wr => ∃ i : Nat, i ≤ k ∧ iv = .int .i64 i ∧ ∃ v, Hid (Blk wr w.heap.size 86 #[.pointer (some ⟨sb, 0, none⟩), v, .int .i64 0]) ∧ Hid (Slc wr 88 5 v i (frc (List.replicate i Fr.nil))) ∧ Hid (Below w.heap.size w wr) ∧ Hid (∀ g ∈ ownB v, w.heap.size ≤ g)) (fun iv _ => k - (intOf iv).toNat)
 case atStart => exact ⟨0, Nat.zero_le _, rfl, .slice none 0 0, B0, Lib.hid (Slc.nil _ _ _), O0, Lib.hid (by simp [ownB])⟩
 case round =>
  obtain ⟨i, hi, rfl, v, BP, SP, OB, FR⟩ := hrel
  by_cases h : i < k
  ·obtain ⟨A, cc, rfl⟩ := slc_val SP.out
   have c0 := BP.out.cell_some (i := 1) rfl
   obtain ⟨v2, w2, ea, S2, ow2, fr2⟩ := append_rnil2 SP.out (by omega)
   obtain ⟨A2, cc2, rfl⟩ := slc_val S2
   have BP2 := BP.out.only ow2 (slc_ne SP.out BP.out (by decide))
   have q0 := BP2.cell_some (i := 1) rfl
   have q1 := BP2.frozen 1 (by simp)
   have EA := Lib.hid ea
   have H3 := Lib.hid (show Blk (w2.setCell ⟨w.heap.size, 1, none⟩ (.slice A2 (i + 1) cc2)) w.heap.size 86 #[.pointer (some ⟨sb, 0, none⟩), .slice A2 (i + 1) cc2, .int .i64 0] ∧ Slc (w2.setCell ⟨w.heap.size, 1, none⟩ (.slice A2 (i + 1) cc2)) 88 5 (.slice A2 (i + 1) cc2) (i + 1) (frc (List.replicate (i + 1) Fr.nil)) ∧ Below w.heap.size w (w2.setCell ⟨w.heap.size, 1, none⟩ (.slice A2 (i + 1) cc2)) ∧ ∀ g ∈ ownB (.slice A2 (i + 1) cc2), w.heap.size ≤ g from by
    refine ⟨BP2.set_ 1 _, ?_, Below.setCell (OB.out.trans (ow2.below_of OB.out.size FR.out)) (p := ⟨w.heap.size, 1, none⟩) (Nat.le_refl _) _, fun g hg => (fr2 g hg).elim (FR.out g) (fun h => by have := OB.out.size; omega)⟩
    rw [show List.replicate (i + 1) Fr.nil = List.replicate i Fr.nil ++ [Fr.nil] from List.replicate_succ']
    exact S2.only ((Only.refl [w.heap.size] w2).setCell (p := ⟨w.heap.size, 1, none⟩) (by simp) _) (fun g hg hm => by simp at hm; subst hm; exact slc_ne S2 BP2 (by decide) hg))
   clear ea S2 ow2 fr2 BP2
   go_wp2_with fail
   rw [EA.out]
   go_wp2_with fail
   go_roundw
   case rel => exact ⟨i + 1, by omega, by go_num, .slice A2 (i + 1) cc2, Lib.hid H3.out.1, Lib.hid H3.out.2.1, Lib.hid H3.out.2.2.1, Lib.hid H3.out.2.2.2⟩
   case measure => simp [intOf]; omega
  ·have e : i = k := by omega
   subst e
   go_wp2_with fail
   go_ret
   exact ⟨w.heap.size, v, by first | rfl | simp, BP.out, SP.out, OB.out, Nat.le_refl _, FR.out⟩
end
/-- a pool at the start -/
def QS.start (fr pg : Nat) : QS := ⟨St.start pg, List.replicate fr Fr.nil, 0⟩
set_option maxRecDepth 100000 in
set_option maxHeartbeats 2000000 in
theorem begun15_any (w : World) (fr pg : Nat) (f1 : 1 ≤ fr) (f2 : fr ≤ 32) (p1 : 1 ≤ pg) (p2 : pg ≤ 1000) :
  Calls Tryz.prog 40 #[.int .i64 (fr : Nat), .int .i64 (pg : Nat)] w fun e w' => ∃ pq xq rs, e = .returned (.tuple #[pp pq, rp xq]) ∧ PX w w' pq xq rs (2 + 4 * pg) (QS.start fr pg) (QS.start fr pg) 1 := by
 have n1 : pagesF (2 + 4 * pg) = pg := by unfold pagesF manyF; omega
 have e1 : IntKind.i64.wrap (4 * (pg : Int)) = 4 * (pg : Int) := IntWalk.i64_in _ (by omega)
 have e2 : IntKind.i64.wrap (2 + 4 * (pg : Int)) = ((2 + 4 * pg : Nat) : Int) := by rw [show 2 + 4 * (pg : Int) = ((2 + 4 * pg : Nat) : Int) by omega]; exact IntWalk.i64_in _ (by omega)
 have KD := Lib.hid (new_yes (2 + 4 * pg) w (by omega) (by omega))
 have KF := Lib.hid (fun (W : World) (L : Dk.Loc) (hW : DiskAt W L (2 + 4 * pg) (D.zero (2 + 4 * pg))) => format_any hW (by omega) rfl rfl (by show (0 : Int) ≤ 1000; omega))
 have KP := Lib.hid (fun (W : World) (b : Nat) => pnew_any (w := W) b fr f1 f2)
 have KR := Lib.hid (fun (W : World) (b : Nat) => rnew15_any2 (w := W) b fr f2)
 have HQ := Lib.hid (show ∀ (W W2 : World) (x : X) (pq xq : Nat) (v rv : Value), At W x (2 + 4 * pg) (formC (D.zero (2 + 4 * pg)) (2 + 4 * pg)) → Blk W pq 148 #[sp x.b, v, .int .i64 0] → Slc W 150 5 v fr (frc (List.replicate fr Fr.nil)) → (∀ g ∈ x.fp, w.heap.size ≤ g) → w.heap.size ≤ pq → (∀ g ∈ ownB v, w.heap.size ≤ g) → pq ∉ x.fp → (∀ g ∈ ownB v, g ∉ x.fp) →
   Below w.heap.size w W → Below (W.alloc (.cells #[.int .i64 (pg : Nat), .slice none 0 0, .slice none 0 0, .int .i64 1, .bool false] 47)).heap.size (W.alloc (.cells #[.int .i64 (pg : Nat), .slice none 0 0, .slice none 0 0, .int .i64 1, .bool false] 47)) W2 → Blk W2 xq 86 #[rp W.heap.size, rv, .int .i64 0] → Slc W2 88 5 rv fr (frc (List.replicate fr Fr.nil)) → w.heap.size ≤ xq →
   PX w W2 pq xq W.heap.size (2 + 4 * pg) (QS.start fr pg) (QS.start fr pg) 1 from fun W W2 x pq xq v rv A B S h1 h2 h3 h4 h5 hb hb2 BX SX h6 => by
  obtain ⟨g, cp, rest, rfl, BB, _⟩ := S.form (by omega) (by omega)
  obtain ⟨gd, e, hc, hr, _⟩ := form_start2 (2 + 4 * pg) (by omega) (by omega) A.hd.ok
  rw [n1] at e
  have z : Zc (formC (D.zero (2 + 4 * pg)) (2 + 4 * pg)) (2 + 4 * pg) (St.start pg) 1 := ⟨gd, hr, ⟨0, by rw [pad_zero, e]⟩, by omega, by show (1 : Int) ≤ (1 : Nat); omega⟩
  have hal := Rt.belowAlloc (Below.refl W.heap.size W) (.cells #[.int .i64 (pg : Nat), .slice none 0 0, .slice none 0 0, .int .i64 1, .bool false] 47)
  have hal2 : Below W.heap.size W W2 := bstep hal hb2
  have H : Hq (QS.start fr pg) (2 + 4 * pg) 1 := ⟨⟨_, z⟩, fun f hf => by rw [List.eq_of_mem_replicate hf]; exact Fb.nil, by show 1 ≤ (List.replicate fr Fr.nil).length; rw [List.length_replicate]; exact f1, by show (List.replicate fr Fr.nil).length ≤ 32; rw [List.length_replicate]; exact f2, by show 0 < (List.replicate fr Fr.nil).length; rw [List.length_replicate]; exact f1, by show ([] : List Sl14).length ≤ 512; simp⟩
  refine ⟨⟨⟨x, pq, g, cp⟩, rfl, ⟨_, ?_, z⟩, ?_⟩, ?_, H, H, bstep hb hal2, h6, hb.size⟩
  ·have A1 : AtP W ⟨x, pq, g, cp⟩ (2 + 4 * pg) ((QS.start fr pg).ps (formC (D.zero (2 + 4 * pg)) (2 + 4 * pg))) := by
    refine ⟨?_, ?_, A, h4, h5 g (by simp [ownB]), H.l1, H.l2, H.lh⟩
    ·show Blk W pq _ #[_, .slice (some ⟨g, 0, none⟩) (List.replicate fr Fr.nil).length cp, _]
     rw [List.length_replicate]; exact B
    ·show Slc W _ 5 (.slice (some ⟨g, 0, none⟩) (List.replicate fr Fr.nil).length cp) (List.replicate fr Fr.nil).length _
     rw [List.length_replicate]; exact S
   exact A1.below hal2
  ·intro y hy
   simp only [Y.fp, List.mem_cons] at hy
   rcases hy with rfl | rfl | hy
   ·exact h2
   ·exact h3 _ (by simp [ownB])
   ·exact h1 y hy
  ·have BS : Blk W2 W.heap.size 47 #[.int .i64 (pg : Nat), .slice none 0 0, .slice none 0 0, .int .i64 1, .bool false] := Blk.below (Blk.new W _ _) hb2 (Blk.new W _ _).lt
   exact ⟨rv, .slice none 0 0, .slice none 0 0, BX, by show Slc W2 _ 5 rv (List.replicate fr Fr.nil).length _; rw [List.length_replicate]; exact SX, ⟨BS, Slc.nil _ _ _, Slc.nil _ _ _, by simp [QS.start, St.start], by simp [QS.start, St.start], by show pg ≤ 1024; omega, by show (0 : Int) ≤ 1 ∧ (1 : Int) ≤ 3000000000000; omega⟩, H.l1, H.l2, H.lh⟩)
 clear f1 f2 p1
 unfold dp pp sp rp at *
 go_enter Tryz.func40, Tryz.ntmps40
 go_wp2_with fail
 refine KD.out.mono ?_
 rintro e w1 ⟨L, rfl, D1, hb1, hL⟩
 have O1 := Lib.hid hb1
 have D1 := Lib.hid D1
 have HL := Lib.hid hL
 clear hb1 hL
 go_wp2_with fail
 refine (KF.out w1 L D1.out).mono ?_
 rintro e w2 ⟨x, hxL, rfl, A2, o2, fx⟩
 have H2 := Lib.hid (show At w2 x (2 + 4 * pg) (formC (D.zero (2 + 4 * pg)) (2 + 4 * pg)) ∧ Below w.heap.size w w2 ∧ ∀ g ∈ x.fp, w.heap.size ≤ g from ⟨A2, O1.out.trans (o2.below_of O1.out.size HL.out), fun g hg => (fx g hg).elim (HL.out g) (fun h => by have := O1.out.size; omega)⟩)
 clear A2 o2 fx
 go_wp2_with fail
 refine (KP.out w2 x.b).mono ?_
 rintro e w3 ⟨pq, v, rfl, B3, S3, hb3, hp3, hf3⟩
 have H3 := Lib.hid (show At w3 x (2 + 4 * pg) (formC (D.zero (2 + 4 * pg)) (2 + 4 * pg)) ∧ Below w.heap.size w w3 ∧ Blk w3 pq 148 #[.pointer (some ⟨x.b, 0, none⟩), v, .int .i64 0] ∧ Slc w3 150 5 v fr (frc (List.replicate fr Fr.nil)) ∧ pq ∉ x.fp ∧ (∀ g ∈ ownB v, g ∉ x.fp) ∧ w.heap.size ≤ pq ∧ ∀ g ∈ ownB v, w.heap.size ≤ g from
  ⟨H2.out.1.below hb3, bstep H2.out.2.1 hb3, B3, S3, fun hF => by have := H2.out.1.lt _ hF; omega, fun g hg hF => by have := H2.out.1.lt _ hF; have := hf3 g hg; omega, by have := H2.out.2.1.size; omega, fun g hg => by have := hf3 g hg; have := H2.out.2.1.size; omega⟩)
 clear B3 S3 hb3 hp3 hf3
 go_wp2_with fail
 refine (KR.out _ _).mono ?_
 rintro e w4 ⟨xq, rv, rfl, B4, S4, hb4, h4, _⟩
 obtain ⟨a1, a2, a3, a4, a5, a6, a7, a8⟩ := H3.out
 have HF := Lib.hid (HQ.out w3 w4 x pq xq v rv a1 a3 a4 H2.out.2.2 a7 a8 a5 a6 a2 hb4 B4 S4 (by have := a2.size; simp at h4; omega))
 clear hb4 B4 S4 h4 a1 a2 a3 a4 a5 a6 a7 a8
 go_wp2_with fail
 go_ret2
 exact ⟨pq, xq, _, by first | rfl | simp, HF.out⟩
end Go.Proofs.YtbelcgjbhpjnpaaGreat.Sh
