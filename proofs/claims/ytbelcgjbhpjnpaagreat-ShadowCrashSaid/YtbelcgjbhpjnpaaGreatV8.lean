/- the law's crashed: what Open finds behind a crash, and what is done then. -/
import Derived.Test.YtbelcgjbhpjnpaaGreatV7
import Derived.Test.YtbelcgjbhpjnpaaGreatV6
set_option linter.all false
set_option linter.unusedVariables false
set_option linter.unusedSimpArgs false
namespace Go.Proofs.YtbelcgjbhpjnpaaGreat.Sh
open Go.RowKit Pk Dk Pg
attribute [local go_sem ↓] Go.wp_at_zero Go.wp_at_succ
/-- a disk that is about to crash: what may be found is what the document has, or what was being committed -/
structure CR (w0 w : World) (L : Dk.Loc) (rb n : Nat) (a : St) (nv ov vn : Value) (o2 : List (Option (List UInt8))) (d' : D) (K : Nat) : Prop where
 dk : DiskAt w L n d'
 lf : ∀ g ∈ L.fp, w0.heap.size ≤ g
 rt : RAt w rb nv ov a
 rf : ∀ g ∈ rb :: (ownB nv ++ ownB ov), w0.heap.size ≤ g
 vs : SlAt w vn (oldS o2)
 vl : o2.length ≤ 512
 vf : ∀ g ∈ ownB vn, w0.heap.size ≤ g
 b0 : Below w0.heap.size w0 w
 mn : a.many = pagesF n
 hO : ∀ cr : Cr, (∃ sl parts old, OnDisk (d'.crashF cr n) n a.ep sl old parts a.old) ∨ (∃ sl parts old, OnDisk (d'.crashF cr n) n (a.ep + 1) sl old parts o2)
 bc : d'.calls ≤ 40 * K
 be : a.ep + 1 ≤ K
 bk : K ≤ 500
theorem crashTo_calls (C : Cr) (d : D) : ∀ i, (D.crashTo C d i).1.calls = d.calls
 | 0 => rfl
 | i + 1 => by
  simp only [D.crashTo]
  split
  ·exact crashTo_calls C d i
  ·exact crashTo_calls C d i
theorem crash_calls (C : Cr) (d : D) (n : Nat) : (d.crashF C n).calls = d.calls := crashTo_calls C d n
theorem opened_of {D2 : D} {n : Nat} {L : Dk.Loc} {w2 w3 : World} {e : Ending} {ep sl : Int} {old parts : List Int} {o : List (Option (List UInt8))} (OD : OnDisk D2 n ep sl old parts o) (hd : D2.down = false) (ha : D2.armed = 0) (hok : D2.Ok n) (he : ep < 1099511627776) (hr : OpenR D2 n L w2 e w3) :
  ∃ x1 c1, x1.L = L ∧ e = .returned (.tuple #[sp x1.b, .int .i64 0]) ∧ At w3 x1 n c1 ∧ (∀ g ∈ x1.fp, g ∈ L.fp ∨ w2.heap.size ≤ g) ∧ Only L.fp w2 w3 ∧ Good c1 n ∧ Rooted c1.d n c1.ep c1.slot c1.old c1.parts ∧ c1.d = D2 ∧ c1.ep = ep ∧ c1.absF n = { many := pagesF n, now := oldS o, old := o, ep := ep } := by
 obtain ⟨hD, hO, hr⟩ := hr
 rcases hr with ⟨t, k, hN, hr⟩ | ⟨g0, g1, _⟩
 ·obtain ⟨c1, r1, r2, r3, r4, r5, r6, r7, r8⟩ := OD.opened hd ha hok he hN
  rw [r1] at hr
  rcases hr with ⟨hne, _⟩ | ⟨_, x1, hl, rfl, A1, f1⟩
  ·exact absurd rfl hne
  ·exact ⟨x1, c1, hl, rfl, A1, f1, hO, r7, by rw [r2, r3, r4, r5, r6]; exact OD.r, r2, r3, r8⟩
 ·rcases OD.r.sl with hs | hs
  ·have := OD.root.2.2.2
   rw [hs] at this
   exact absurd this g0
  ·have := OD.root.2.2.2
   rw [hs] at this
   exact absurd this g1
set_option maxRecDepth 100000 in
set_option maxHeartbeats 4000000 in
theorem crashed_any {w0 w : World} {L : Dk.Loc} {rb n : Nat} {a : St} {nv ov vn : Value} {o2 : List (Option (List UInt8))} {d' : D} {K : Nat} (h : CR w0 w L rb n a nv ov vn o2 d' K) (cr : Cr) (hC : cr.At w0) (hm : cr.m ≤ 9223372036854775807)
  (A : Option Addr) (m cc : Nat) (F : Nat → Sa) (hA : SActs w0 A m F) :
  Calls Tryz.prog 22 #[dp L.b, rp rb, vn, cr.val, .slice A m cc] w fun e w' => e = .returned (.bool true) ∧ Below w0.heap.size w0 w' := by
 obtain ⟨Az1, kz1, qz1, rfl⟩ : ∃ A k q, vn = .slice A k q := by obtain ⟨A, q, e⟩ := h.vs.val; exact ⟨A, _, q, e⟩
 obtain ⟨Az2, kz2, qz2, rfl⟩ : ∃ A k q, ov = .slice A k q := by obtain ⟨A, q, e⟩ := h.rt.ho.val; exact ⟨A, _, q, e⟩
 have b1 := Rt.belowAlloc (Below.refl w.heap.size w) (.cells #[.slice cr.A cr.m cr.c, .int .i64 cr.torn, .int .i64 cr.bytes] 38)
 have B1 := Blk.new w 38 #[.slice cr.A cr.m cr.c, .int .i64 cr.torn, .int .i64 cr.bytes]
 have q0 := B1.cell_some (i := 0) rfl
 have q1 := B1.cell_some (i := 1) rfl
 have q2 := B1.cell_some (i := 2) rfl
 have KC := Lib.hid (crash_any (h.dk.below b1) cr (hC.below (bstep h.b0 b1)) hm (fun ad e h0 hL => by
  obtain ⟨ad', e', hc⟩ := hC 0 h0
  rw [e] at e'
  injection e' with e'
  subst e'
  have := cell_lt hc
  have := h.lf _ hL
  omega))
 have hok2 : (d'.crashF cr n).Ok n := h.dk.ok.crash cr
 have hn2 : 2 ≤ n := by
  rcases h.hO cr with ⟨_, _, _, OD⟩ | ⟨_, _, _, OD⟩ <;> exact OD.r.n2
 have KO := Lib.hid (fun (W : World) (hD : DiskAt W L n (d'.crashF cr n)) => open_any hD rfl hn2)
 have hle := h.rt.le
 have HX := Lib.hid (show ∀ (W1 W2 : World) (e : Ending), OpenR (d'.crashF cr n) n L W1 e W2 → ∃ ep1 o1, ((ep1 = a.ep ∧ o1 = a.old) ∨ (ep1 = a.ep + 1 ∧ o1 = o2)) ∧ ∃ x1 c1, x1.L = L ∧ e = .returned (.tuple #[sp x1.b, .int .i64 0]) ∧ At W2 x1 n c1 ∧ (∀ g ∈ x1.fp, g ∈ L.fp ∨ W1.heap.size ≤ g) ∧ Only L.fp W1 W2 ∧ Good c1 n ∧ Rooted c1.d n c1.ep c1.slot c1.old c1.parts ∧ c1.d = d'.crashF cr n ∧ c1.ep = ep1 ∧ c1.absF n = { many := pagesF n, now := oldS o1, old := o1, ep := ep1 } from fun W1 W2 e hr => by
  rcases h.hO cr with ⟨sl, parts, old, OD⟩ | ⟨sl, parts, old, OD⟩
  ·exact ⟨a.ep, a.old, .inl ⟨rfl, rfl⟩, opened_of OD rfl rfl hok2 (by omega) hr⟩
  ·exact ⟨a.ep + 1, o2, .inr ⟨rfl, rfl⟩, opened_of OD rfl rfl hok2 (by omega) hr⟩)
 have HH := Lib.hid h
 have HB1 := Lib.hid b1
 have HA := Lib.hid (fun (W : World) (hb : Below w0.heap.size w0 W) => hA.below hb)
 have KS := Lib.hid short14_any
 have KD := Lib.hid (fun (W : World) (L : Dk.Loc) (b rb K : Nat) (h : LL w0 W L b rb n K) (kd l : Int) (s : ByteArray) (hs : s.size ≤ 1000000) (hK : K ≤ 999) => h.do_ kd l s hs hK)
 have KM := Lib.hid (fun (W : World) (L : Dk.Loc) (b rb K : Nat) (h : LL w0 W L b rb n K) => h.same)
 have HK := Lib.hid h.bk
 have hae := hle
 obtain ⟨aep, haep⟩ : ∃ z, a.ep = z := ⟨_, rfl⟩
 have HAE := Lib.hid haep
 rw [haep] at hae HX
 have e1 : IntKind.i64.wrap (aep + 1) = aep + 1 := IntWalk.i64_in _ (by omega)
 clear h hA hok2 hn2 hle haep B1 b1
 unfold Cr.val dp sp rp at *
 go_enter Tryz.func22, Tryz.ntmps22
 go_wp2_with fail
 refine KC.out.mono ?_
 rintro e w2 ⟨rfl, D2, o2'⟩
 have HD2 := Lib.hid D2
 have HO2 := Lib.hid o2'
 clear D2 o2' q0 q1 q2
 go_wp2_with fail
 refine (KO.out w2 HD2.out).mono ?_
 rintro e w3 hr
 obtain ⟨ep1, o1, hsel, x1, c1, hl, rfl, A1, f1, o3, g1, R1, hd1, hep1, hab⟩ := HX.out w2 w3 e hr
 -- the worlds
 have ho : Only L.fp w w3 := ((Only.of_below HB1.out).trans HO2.out).trans o3
 have b3 : Below w0.heap.size w0 w3 := HH.out.b0.trans (ho.below_of HH.out.b0.size HH.out.lf)
 have hsz3 : w.heap.size ≤ w2.heap.size := ((Only.of_below (S := L.fp) HB1.out).trans HO2.out).size
 have ff : ∀ g ∈ x1.fp, w0.heap.size ≤ g := fun g hg => (f1 g hg).elim (HH.out.lf g) (fun h => by have := HH.out.b0.size; omega)
 have hdisj : ∀ g t cs, Blk w g t cs → t ≠ 111 → t ≠ 140 → t ≠ 4 → g ∉ L.fp := fun g t cs B h1 h2 h3 hm => by
  simp only [Loc.fp, List.mem_cons, List.not_mem_nil, or_false] at hm
  rcases hm with rfl | rfl | rfl | rfl
  ·exact h1 (B.inj HH.out.dk.hb).1
  ·exact h2 (B.inj HH.out.dk.hN).1
  ·exact h2 (B.inj HH.out.dk.hO).1
  ·exact h3 (B.inj HH.out.dk.hL).1
 have R3 := HH.out.rt.only ho (fun g hg => by
  obtain ⟨t, cs, ht, B⟩ := HH.out.rt.blk g hg
  rcases ht with rfl | rfl
  ·exact hdisj g _ cs B (by decide) (by decide) (by decide)
  ·exact hdisj g _ cs B (by decide) (by decide) (by decide))
 have V3 := HH.out.vs.only ho (fun g hg => by
  obtain ⟨cs, B⟩ := slc_blk HH.out.vs g hg
  exact hdisj g _ cs B (by decide) (by decide) (by decide))
 have HS := Lib.hid (fun (W : World) (hW : Below w3.heap.size w3 W) => (show W.cell? ⟨rb, 0, none⟩ = some (.int .i64 (pagesF n : Nat)) ∧ W.cell? ⟨rb, 2, none⟩ = some (.slice Az2 kz2 qz2) ∧ W.cell? ⟨rb, 3, none⟩ = some (.int .i64 aep) from ⟨by rw [← HH.out.mn]; exact (R3.below hW).f0, (R3.below hW).f2, by rw [← HAE.out]; exact (R3.below hW).f3⟩))
 have KE := Lib.hid (fun (W : World) (hW : Below w3.heap.size w3 W) => (show Calls Tryz.prog 27 #[.pointer (some ⟨x1.b, 0, none⟩)] W fun e w' => e = .returned (.int .i64 ep1) ∧ W = w' from by have := epoch_any (A1.below hW); rw [hep1] at this; exact this))
 have HQ' : ∀ (v : Value), SlAt w3 v (oldS o1) → (∀ g ∈ ownB v, w0.heap.size ≤ g) → o1.length ≤ 512 → ∀ W, Below w3.heap.size w3 W → LL w0 (W.alloc (.cells #[.int .i64 (pagesF n : Nat), v, v, .int .i64 ep1, .bool false] 47)).drew L x1.b W.heap.size n (K + 1) := fun v hv hvf hlen W hW => by
  have hal := (Rt.belowAlloc (Below.refl W.heap.size W) (.cells #[.int .i64 (pagesF n : Nat), v, v, .int .i64 ep1, .bool false] 47)).drew
  have hall := bstep hW hal
  have hpg : pagesF n ≤ 1024 := by unfold pagesF; omega
  have hbc := HH.out.bc
  have hbe := HH.out.be
  have hbk := HH.out.bk
  refine ⟨x1, c1, { many := pagesF n, now := oldS o1, old := o1, ep := ep1 }, false, hl, rfl, ?_, ⟨v, v, ⟨(Blk.new W 47 #[.int .i64 (pagesF n : Nat), v, v, .int .i64 ep1, .bool false]).drew, hv.below hall, hv.below hall, by rw [oldS_length]; exact hlen, hlen, hpg, ?_⟩, ?_⟩, b3.trans (hall.mono b3.size), ff, g1, R1, fun h => absurd h (by decide), .inl rfl, ⟨0, by rw [pad_zero, hab]⟩, by omega, ?_, ?_⟩
  ·rw [armed_zero g1.arm]; exact A1.below hall
  ·show 0 ≤ ep1 ∧ ep1 ≤ 1000000
   have := HAE.out
   rcases hsel with ⟨h1, _⟩ | ⟨h1, _⟩ <;> omega
  ·intro g hg
   rcases List.mem_cons.1 hg with rfl | hg
   ·have := hW.size; have := b3.size; omega
   ·exact (List.mem_append.1 hg).elim (hvf g) (hvf g)
  ·rw [hd1, crash_calls]; omega
  ·rw [hep1]
   have := HAE.out
   rcases hsel with ⟨h1, _⟩ | ⟨h1, _⟩ <;> omega
 have O3 := Lib.hid (Below.refl w3.heap.size w3)
 obtain ⟨b1, hb1⟩ : ∃ b1, x1.b = b1 := ⟨_, rfl⟩
 rw [hb1] at HQ' KE ⊢
 have k0 := (HS.out w3 O3.out).1
 have k2 := (HS.out w3 O3.out).2.1
 have k3 := (HS.out w3 O3.out).2.2
 have HNV := HH.out.rf
 rcases hsel with ⟨h1, h2⟩ | ⟨h1, h2⟩
 ·have HQ := Lib.hid (HQ' (.slice Az2 kz2 qz2) (by rw [h2]; exact R3.ho) (fun g hg => HNV g (List.mem_cons_of_mem _ (List.mem_append_right _ hg))) (by rw [h2]; exact R3.lo))
  obtain rfl : aep = ep1 := h1.symm
  have hq : (aep == aep + 1) = false := by rw [beq_eq_false_iff_ne]; omega
  have hq2 : (aep != aep) = false := by simp
  clear HQ' h2 hl A1 f1 o3 g1 R1 hd1 hep1 hab ho b3 hsz3 ff hdisj R3 V3 hb1 hr HNV
  go_wp2_with fail
  refine wp_region_held_drew (S := fun W' => W'.cell? ⟨rb, 0, none⟩ = some (.int .i64 (pagesF n : Nat)) ∧ W'.cell? ⟨rb, 2, none⟩ = some (.slice Az2 kz2 qz2) ∧ W'.cell? ⟨rb, 3, none⟩ = some (.int .i64 aep)) (by kernel_rfl) ((HS.out _ O3.out.drew)) (fun hHeld => ?_)
  refine tkf (i := 0) (oi := ⟨some 35, _, _, _, _, _⟩) (v := ?_) rfl (by kernel_rfl) (fun _ _ _ h => h) (by assumption) ?_ ?_
  rotate_left
  ·(intro w hSw; (try dsimp only at hSw); go_simp; (try (with_reducible rfl)))
  try simp only [Act.put, List.setIfInBounds_toArray, List.set_cons_zero, List.set_cons_succ]
  refine tkf (i := 2) (oi := ⟨some 37, _, _, _, _, _⟩) (v := ?_) rfl (by kernel_rfl) (fun _ _ _ h => h) (by assumption) ?_ ?_
  rotate_left
  ·(intro w hSw; (try dsimp only at hSw); go_simp; (try (with_reducible rfl)))
  try simp only [Act.put, List.setIfInBounds_toArray, List.set_cons_zero, List.set_cons_succ]
  refine tkf (i := 3) (oi := ⟨some 38, _, _, _, _, _⟩) (v := ?_) rfl (by kernel_rfl) (fun _ _ _ h => h) (by assumption) ?_ ?_
  rotate_left
  ·(intro w hSw; (try dsimp only at hSw); go_simp; (try (with_reducible rfl)))
  try simp only [Act.put, List.setIfInBounds_toArray, List.set_cons_zero, List.set_cons_succ]
  refine tkf (i := 4) (oi := ⟨some 39, _, _, _, _, _⟩) (v := ?_) rfl (by kernel_rfl) (fun _ _ _ h => h) (by assumption) ?_ ?_
  rotate_left
  ·(intro w hSw; (try dsimp only at hSw); go_simp; (try (with_reducible rfl)))
  try simp only [Act.put, List.setIfInBounds_toArray, List.set_cons_zero, List.set_cons_succ]
  refine tkf (i := 5) (oi := ⟨some 40, _, _, _, _, _⟩) (v := ?_) rfl (by kernel_rfl) (fun _ _ _ h => h) (by assumption) ?_ ?_
  rotate_left
  ·(intro w hSw; (try dsimp only at hSw); go_simp; (try (with_reducible rfl)))
  try simp only [Act.put, List.setIfInBounds_toArray, List.set_cons_zero, List.set_cons_succ]
  refine tkf (i := 6) (oi := ⟨some 41, _, _, _, _, _⟩) (v := ?_) rfl (by kernel_rfl) (fun _ _ _ h => h) (by assumption) ?_ ?_
  rotate_left
  ·(intro w hSw; (try dsimp only at hSw); go_simp; (try (with_reducible rfl)))
  try simp only [Act.put, List.setIfInBounds_toArray, List.set_cons_zero, List.set_cons_succ]
  refine wpAnyH_ready (rs := [1]) (by kernel_rfl) (by simp) ?_
  refine AllReadyH.cons (o := ⟨some 36, _, _, _, _, _⟩) rfl (fun Kz hK => ?_) AllReadyH.nil
  go_simp
  go_at_call 27
  refine (KE.out _ O3.out.drew).mono ?_
  rintro e wx ⟨rfl, rfl⟩
  go_simp
  refine hK.out _ _ ((HS.out _ O3.out.drew)) (fun hHeld => ?_)
  try simp only [Act.put, List.setIfInBounds_toArray, List.set_cons_zero, List.set_cons_succ]
  refine tkf (i := 7) (oi := ⟨some 42, _, _, _, _, _⟩) (v := ?_) rfl (by kernel_rfl) (fun _ _ _ h => h) (by assumption) ?_ ?_
  rotate_left
  ·(intro w hSw; (try dsimp only at hSw); go_simp; (try (with_reducible rfl)))
  try simp only [Act.put, List.setIfInBounds_toArray, List.set_cons_zero, List.set_cons_succ]
  refine wpAnyH_done (by kernel_rfl) ?_ _
  have O4 := Lib.hid O3.out.drew
  generalize hwz : w3.drew = w4 at *
  clear hwz
  go_wp2_with fail
  refine wp_region_held_drew (S := fun W' => W'.cell? ⟨rb, 0, none⟩ = some (.int .i64 (pagesF n : Nat)) ∧ W'.cell? ⟨rb, 2, none⟩ = some (.slice Az2 kz2 qz2) ∧ W'.cell? ⟨rb, 3, none⟩ = some (.int .i64 aep)) (by kernel_rfl) ((HS.out _ O4.out.drew)) (fun hHeld => ?_)
  refine tkf (i := 0) (oi := ⟨some 44, _, _, _, _, _⟩) (v := ?_) rfl (by kernel_rfl) (fun _ _ _ h => h) (by assumption) ?_ ?_
  rotate_left
  ·(intro w hSw; (try dsimp only at hSw); go_simp; (try (with_reducible rfl)))
  try simp only [Act.put, List.setIfInBounds_toArray, List.set_cons_zero, List.set_cons_succ]
  refine tkf (i := 2) (oi := ⟨some 46, _, _, _, _, _⟩) (v := ?_) rfl (by kernel_rfl) (fun _ _ _ h => h) (by assumption) ?_ ?_
  rotate_left
  ·(intro w hSw; (try dsimp only at hSw); go_simp; (try (with_reducible rfl)))
  try simp only [Act.put, List.setIfInBounds_toArray, List.set_cons_zero, List.set_cons_succ]
  refine tkf (i := 3) (oi := ⟨some 47, _, _, _, _, _⟩) (v := ?_) rfl (by kernel_rfl) (fun _ _ _ h => h) (by assumption) ?_ ?_
  rotate_left
  ·(intro w hSw; (try dsimp only at hSw); go_simp; (try (with_reducible rfl)))
  try simp only [Act.put, List.setIfInBounds_toArray, List.set_cons_zero, List.set_cons_succ]
  refine tkf (i := 4) (oi := ⟨some 48, _, _, _, _, _⟩) (v := ?_) rfl (by kernel_rfl) (fun _ _ _ h => h) (by assumption) ?_ ?_
  rotate_left
  ·(intro w hSw; (try dsimp only at hSw); go_simp; (try (with_reducible rfl)))
  try simp only [Act.put, List.setIfInBounds_toArray, List.set_cons_zero, List.set_cons_succ]
  refine tkf (i := 5) (oi := ⟨some 49, _, _, _, _, _⟩) (v := ?_) rfl (by kernel_rfl) (fun _ _ _ h => h) (by assumption) ?_ ?_
  rotate_left
  ·(intro w hSw; (try dsimp only at hSw); go_simp; (try (with_reducible rfl)))
  try simp only [Act.put, List.setIfInBounds_toArray, List.set_cons_zero, List.set_cons_succ]
  refine wpAnyH_ready (rs := [1]) (by kernel_rfl) (by simp) ?_
  refine AllReadyH.cons (o := ⟨some 45, _, _, _, _, _⟩) rfl (fun Kz hK => ?_) AllReadyH.nil
  go_simp
  go_at_call 27
  refine (KE.out _ O4.out.drew).mono ?_
  rintro e wx ⟨rfl, rfl⟩
  go_simp
  refine hK.out _ _ ((HS.out _ O4.out.drew)) (fun hHeld => ?_)
  try simp only [Act.put, List.setIfInBounds_toArray, List.set_cons_zero, List.set_cons_succ]
  refine tkf (i := 6) (oi := ⟨some 50, _, _, _, _, _⟩) (v := ?_) rfl (by kernel_rfl) (fun _ _ _ h => h) (by assumption) ?_ ?_
  rotate_left
  ·(intro w hSw; (try dsimp only at hSw); go_simp; (try (with_reducible rfl)))
  try simp only [Act.put, List.setIfInBounds_toArray, List.set_cons_zero, List.set_cons_succ]
  refine wpAnyH_done (by kernel_rfl) ?_ _
  have O5 := Lib.hid O4.out.drew
  generalize hwz : w4.drew = w5 at *
  clear hwz
  go_wp2_with fail
  refine wp_region_held_drew (S := fun W' => W'.cell? ⟨rb, 0, none⟩ = some (.int .i64 (pagesF n : Nat)) ∧ W'.cell? ⟨rb, 2, none⟩ = some (.slice Az2 kz2 qz2) ∧ W'.cell? ⟨rb, 3, none⟩ = some (.int .i64 aep)) (by kernel_rfl) ((HS.out _ O5.out.drew)) (fun hHeld => ?_)
  refine tkf (i := 0) (oi := ⟨some 51, _, _, _, _, _⟩) (v := ?_) rfl (by kernel_rfl) (fun _ _ _ h => h) (by assumption) ?_ ?_
  rotate_left
  ·(intro w hSw; (try dsimp only at hSw); go_simp; (try (with_reducible rfl)))
  try simp only [Act.put, List.setIfInBounds_toArray, List.set_cons_zero, List.set_cons_succ]
  refine tkf (i := 1) (oi := ⟨some 52, _, _, _, _, _⟩) (v := ?_) rfl (by kernel_rfl) (fun _ _ _ h => h) (by assumption) ?_ ?_
  rotate_left
  ·(intro w hSw; (try dsimp only at hSw); go_simp; (try (with_reducible rfl)))
  try simp only [Act.put, List.setIfInBounds_toArray, List.set_cons_zero, List.set_cons_succ]
  refine tkf (i := 2) (oi := ⟨some 53, _, _, _, _, _⟩) (v := ?_) rfl (by kernel_rfl) (fun _ _ _ h => h) (by assumption) ?_ ?_
  rotate_left
  ·(intro w hSw; (try dsimp only at hSw); go_simp; (try (with_reducible rfl)))
  try simp only [Act.put, List.setIfInBounds_toArray, List.set_cons_zero, List.set_cons_succ]
  refine tkf (i := 3) (oi := ⟨some 54, _, _, _, _, _⟩) (v := ?_) rfl (by kernel_rfl) (fun _ _ _ h => h) (by assumption) ?_ ?_
  rotate_left
  ·(intro w hSw; (try dsimp only at hSw); go_simp; (try (with_reducible rfl)))
  try simp only [Act.put, List.setIfInBounds_toArray, List.set_cons_zero, List.set_cons_succ]
  refine tkf (i := 4) (oi := ⟨some 55, _, _, _, _, _⟩) (v := ?_) rfl (by kernel_rfl) (fun _ _ _ h => h) (by assumption) ?_ ?_
  rotate_left
  ·(intro w hSw; (try dsimp only at hSw); go_simp; (try (with_reducible rfl)))
  try simp only [Act.put, List.setIfInBounds_toArray, List.set_cons_zero, List.set_cons_succ]
  refine tkf (i := 5) (oi := ⟨some 56, _, _, _, _, _⟩) (v := ?_) rfl (by kernel_rfl) (fun _ _ _ h => h) (by assumption) ?_ ?_
  rotate_left
  ·(intro w hSw; (try dsimp only at hSw); go_simp; (try (with_reducible rfl)))
  try simp only [Act.put, List.setIfInBounds_toArray, List.set_cons_zero, List.set_cons_succ]
  refine tkf (i := 6) (oi := ⟨some 57, _, _, _, _, _⟩) (v := ?_) rfl (by kernel_rfl) (fun _ _ _ h => h) (by assumption) ?_ ?_
  rotate_left
  ·(intro w hSw; (try dsimp only at hSw); go_simp; (try (with_reducible rfl)))
  try simp only [Act.put, List.setIfInBounds_toArray, List.set_cons_zero, List.set_cons_succ]
  refine wpAnyH_ready (rs := [7]) (by kernel_rfl) (by simp) ?_
  refine AllReadyH.cons (o := ⟨some 58, _, _, _, _, _⟩) rfl (fun Kz hK => ?_) AllReadyH.nil
  go_simp
  go_at_call 27
  refine (KE.out _ O5.out.drew).mono ?_
  rintro e wx ⟨rfl, rfl⟩
  go_simp
  refine hK.out _ _ ((HS.out _ O5.out.drew)) (fun hHeld => ?_)
  try simp only [Act.put, List.setIfInBounds_toArray, List.set_cons_zero, List.set_cons_succ]
  refine tkf (i := 8) (oi := ⟨some 59, _, _, _, _, _⟩) (v := ?_) rfl (by kernel_rfl) (fun _ _ _ h => h) (by assumption) ?_ ?_
  rotate_left
  ·(intro w hSw; (try dsimp only at hSw); go_simp; (try (with_reducible rfl)))
  try simp only [Act.put, List.setIfInBounds_toArray, List.set_cons_zero, List.set_cons_succ]
  refine wpAnyH_ready (rs := [9]) (by kernel_rfl) (by simp) ?_
  refine AllReadyH.cons (o := ⟨some 60, _, _, _, _, _⟩) rfl (fun Kz hK => ?_) AllReadyH.nil
  go_simp
  have OX : Below w3.heap.size w3 (w5.alloc (.cells #[.int .i64 (pagesF n : Nat), (.slice Az2 kz2 qz2), (.slice Az2 kz2 qz2), .int .i64 aep, .bool false] 47)).drew := (Rt.belowAlloc O5.out (.cells #[.int .i64 (pagesF n : Nat), (.slice Az2 kz2 qz2), (.slice Az2 kz2 qz2), .int .i64 aep, .bool false] 47)).drew
  refine hK.out _ _ ((HS.out _ OX)) (fun hHeld => ?_)
  try simp only [Act.put, List.setIfInBounds_toArray, List.set_cons_zero, List.set_cons_succ]
  refine tkf (i := 10) (oi := ⟨some 14, _, _, _, _, _⟩) (v := ?_) rfl (by kernel_rfl) (fun _ _ _ h => h) (by assumption) ?_ ?_
  rotate_left
  ·(intro w hSw; (try dsimp only at hSw); go_simp; (try (with_reducible rfl)))
  try simp only [Act.put, List.setIfInBounds_toArray, List.set_cons_zero, List.set_cons_succ]
  refine wpAnyH_done (by kernel_rfl) ?_ _
  have HLL := Lib.hid (HQ.out w5 O5.out)
  go_wp2_with fail
  generalize hw6 : (w5.alloc (.cells #[.int .i64 (pagesF n : Nat), (.slice Az2 kz2 qz2), (.slice Az2 kz2 qz2), .int .i64 aep, .bool false] 47)).drew = w6 at *
  clear hw6
  generalize hyb : w5.heap.size = yb at *
  clear hyb
  refine (KM.out w6 L b1 yb _ HLL.out).mono ?_
  rintro e w7 ⟨rfl, h7⟩
  have H7 := Lib.hid h7
  clear h7
  go_wp2_with fail
  go_loopw [11, 15] (fun sv iv wr => ∃ (i : Nat) (b' : Nat), i ≤ 10 ∧ iv = .int .i64 i ∧ sv = .pointer (some ⟨b', 0, none⟩) ∧ Hid (LL w0 wr L b' yb n (K + 1 + i))) (fun _ iv _ => 10 - (intOf iv).toNat)
  case atStart => exact ⟨0, b1, Nat.zero_le _, rfl, rfl, H7⟩
  case round =>
   obtain ⟨i, b', hi, rfl, rfl, H⟩ := hrel
   by_cases h1 : i < m
   ·have h1I : (i : Int) < (m : Int) := by omega
    by_cases h2 : i < 10
    ·have h2I : (i : Int) < 10 := by omega
     obtain ⟨ad, rfl, hSa⟩ := HA.out wr H.out.b0 i h1
     obtain ⟨c0, c1, c2⟩ := hSa
     have HC := Lib.hid (show ∀ W, Below w0.heap.size w0 W → SaAt W (ad.add (i * 3)) (F i) from fun W hb => by
      obtain ⟨ad', e, h⟩ := HA.out W hb i h1
      injection e with e
      rw [e]; exact h)
     generalize F i = sa at c0 c1 c2 HC
     obtain ⟨kd, l, s⟩ := sa
     dsimp only at c0 c1 c2
     have KS2 := Lib.hid (fun (W : World) => KS.out kd l s W _ rfl)
     have ei : IntKind.i64.wrap ((i : Int) + 1) = ((i + 1 : Nat) : Int) := IntWalk.i64_in _ (by omega)
     by_cases hs : s.size < 500
     ·rw [show decide (s.size < 500) = true by simpa using hs] at KS2
      have HSZ := Lib.hid hs
      clear hs
      go_wp2_with fail
      refine (KS2.out _).mono ?_
      rintro e w8 ⟨rfl, hb3⟩
      have H3 := Lib.hid (H.out.below hb3)
      obtain ⟨d0, d1, d2⟩ := HC.out w8 H3.out.b0
      dsimp only at d0 d1 d2
      clear hb3 c0 c1 c2
      go_wp2_with fail
      refine (KD.out w8 L b' yb (K + 1 + i) H3.out kd l s (by have := HSZ.out; omega) (by have := HK.out; omega)).mono ?_
      rintro e w9 ⟨b2, rfl, h4⟩
      have H4 := Lib.hid h4
      clear h4 d0 d1 d2
      go_wp2_with fail
      refine (KM.out w9 L b2 yb _ H4.out).mono ?_
      rintro e wa ⟨rfl, h5⟩
      have H5 := Lib.hid h5
      clear h5
      go_wp2_with fail
      go_roundw
      case rel => exact ⟨i + 1, b2, by omega, by go_num, rfl, H5⟩
      case measure => simp [intOf]; omega
     ·rw [show decide (s.size < 500) = false by simpa using hs] at KS2
      clear hs
      go_wp2_with fail
      refine (KS2.out _).mono ?_
      rintro e w8 ⟨rfl, hb3⟩
      have H3 := Lib.hid (H.out.below hb3)
      clear hb3 c0 c1 c2
      go_wp2_with fail
      refine (KM.out w8 L b' yb _ H3.out).mono ?_
      rintro e wa ⟨rfl, h5⟩
      have H5 := Lib.hid h5.more
      clear h5
      go_wp2_with fail
      go_roundw
      case rel => exact ⟨i + 1, b', by omega, by go_num, rfl, H5⟩
      case measure => simp [intOf]; omega
    ·have h2I : ¬ (i : Int) < 10 := by omega
     go_wp2_with fail
     go_ret
     exact ⟨by first | rfl | simp, H.out.b0⟩
   ·have h1I : ¬ (i : Int) < (m : Int) := by omega
    go_wp2_with fail
    go_ret
    exact ⟨by first | rfl | simp, H.out.b0⟩
 ·have HQ := Lib.hid (HQ' (.slice Az1 kz1 qz1) (by rw [h2]; exact V3) (by exact HH.out.vf) (by rw [h2]; exact HH.out.vl))
  subst h1
  have hq : (aep + 1 == aep + 1) = true := by simp
  clear HQ' h2 hl A1 f1 o3 g1 R1 hd1 hep1 hab ho b3 hsz3 ff hdisj R3 V3 hb1 hr HNV
  go_wp2_with fail
  refine wp_region_held_drew (S := fun W' => W'.cell? ⟨rb, 0, none⟩ = some (.int .i64 (pagesF n : Nat)) ∧ W'.cell? ⟨rb, 2, none⟩ = some (.slice Az2 kz2 qz2) ∧ W'.cell? ⟨rb, 3, none⟩ = some (.int .i64 aep)) (by kernel_rfl) ((HS.out _ O3.out.drew)) (fun hHeld => ?_)
  refine tkf (i := 0) (oi := ⟨some 35, _, _, _, _, _⟩) (v := ?_) rfl (by kernel_rfl) (fun _ _ _ h => h) (by assumption) ?_ ?_
  rotate_left
  ·(intro w hSw; (try dsimp only at hSw); go_simp; (try (with_reducible rfl)))
  try simp only [Act.put, List.setIfInBounds_toArray, List.set_cons_zero, List.set_cons_succ]
  refine tkf (i := 2) (oi := ⟨some 37, _, _, _, _, _⟩) (v := ?_) rfl (by kernel_rfl) (fun _ _ _ h => h) (by assumption) ?_ ?_
  rotate_left
  ·(intro w hSw; (try dsimp only at hSw); go_simp; (try (with_reducible rfl)))
  try simp only [Act.put, List.setIfInBounds_toArray, List.set_cons_zero, List.set_cons_succ]
  refine tkf (i := 3) (oi := ⟨some 38, _, _, _, _, _⟩) (v := ?_) rfl (by kernel_rfl) (fun _ _ _ h => h) (by assumption) ?_ ?_
  rotate_left
  ·(intro w hSw; (try dsimp only at hSw); go_simp; (try (with_reducible rfl)))
  try simp only [Act.put, List.setIfInBounds_toArray, List.set_cons_zero, List.set_cons_succ]
  refine tkf (i := 4) (oi := ⟨some 39, _, _, _, _, _⟩) (v := ?_) rfl (by kernel_rfl) (fun _ _ _ h => h) (by assumption) ?_ ?_
  rotate_left
  ·(intro w hSw; (try dsimp only at hSw); go_simp; (try (with_reducible rfl)))
  try simp only [Act.put, List.setIfInBounds_toArray, List.set_cons_zero, List.set_cons_succ]
  refine tkf (i := 5) (oi := ⟨some 40, _, _, _, _, _⟩) (v := ?_) rfl (by kernel_rfl) (fun _ _ _ h => h) (by assumption) ?_ ?_
  rotate_left
  ·(intro w hSw; (try dsimp only at hSw); go_simp; (try (with_reducible rfl)))
  try simp only [Act.put, List.setIfInBounds_toArray, List.set_cons_zero, List.set_cons_succ]
  refine tkf (i := 6) (oi := ⟨some 41, _, _, _, _, _⟩) (v := ?_) rfl (by kernel_rfl) (fun _ _ _ h => h) (by assumption) ?_ ?_
  rotate_left
  ·(intro w hSw; (try dsimp only at hSw); go_simp; (try (with_reducible rfl)))
  try simp only [Act.put, List.setIfInBounds_toArray, List.set_cons_zero, List.set_cons_succ]
  refine wpAnyH_ready (rs := [1]) (by kernel_rfl) (by simp) ?_
  refine AllReadyH.cons (o := ⟨some 36, _, _, _, _, _⟩) rfl (fun Kz hK => ?_) AllReadyH.nil
  go_simp
  go_at_call 27
  refine (KE.out _ O3.out.drew).mono ?_
  rintro e wx ⟨rfl, rfl⟩
  go_simp
  refine hK.out _ _ ((HS.out _ O3.out.drew)) (fun hHeld => ?_)
  try simp only [Act.put, List.setIfInBounds_toArray, List.set_cons_zero, List.set_cons_succ]
  refine tkf (i := 7) (oi := ⟨some 42, _, _, _, _, _⟩) (v := ?_) rfl (by kernel_rfl) (fun _ _ _ h => h) (by assumption) ?_ ?_
  rotate_left
  ·(intro w hSw; (try dsimp only at hSw); go_simp; (try (with_reducible rfl)))
  try simp only [Act.put, List.setIfInBounds_toArray, List.set_cons_zero, List.set_cons_succ]
  refine wpAnyH_done (by kernel_rfl) ?_ _
  have O5 := Lib.hid O3.out.drew
  generalize hwz : w3.drew = w5 at *
  clear hwz
  go_wp2_with fail
  refine wp_region_held_drew (S := fun W' => W'.cell? ⟨rb, 0, none⟩ = some (.int .i64 (pagesF n : Nat)) ∧ W'.cell? ⟨rb, 2, none⟩ = some (.slice Az2 kz2 qz2) ∧ W'.cell? ⟨rb, 3, none⟩ = some (.int .i64 aep)) (by kernel_rfl) ((HS.out _ O5.out.drew)) (fun hHeld => ?_)
  refine tkf (i := 0) (oi := ⟨some 51, _, _, _, _, _⟩) (v := ?_) rfl (by kernel_rfl) (fun _ _ _ h => h) (by assumption) ?_ ?_
  rotate_left
  ·(intro w hSw; (try dsimp only at hSw); go_simp; (try (with_reducible rfl)))
  try simp only [Act.put, List.setIfInBounds_toArray, List.set_cons_zero, List.set_cons_succ]
  refine tkf (i := 1) (oi := ⟨some 52, _, _, _, _, _⟩) (v := ?_) rfl (by kernel_rfl) (fun _ _ _ h => h) (by assumption) ?_ ?_
  rotate_left
  ·(intro w hSw; (try dsimp only at hSw); go_simp; (try (with_reducible rfl)))
  try simp only [Act.put, List.setIfInBounds_toArray, List.set_cons_zero, List.set_cons_succ]
  refine tkf (i := 2) (oi := ⟨some 53, _, _, _, _, _⟩) (v := ?_) rfl (by kernel_rfl) (fun _ _ _ h => h) (by assumption) ?_ ?_
  rotate_left
  ·(intro w hSw; (try dsimp only at hSw); go_simp; (try (with_reducible rfl)))
  try simp only [Act.put, List.setIfInBounds_toArray, List.set_cons_zero, List.set_cons_succ]
  refine tkf (i := 3) (oi := ⟨some 54, _, _, _, _, _⟩) (v := ?_) rfl (by kernel_rfl) (fun _ _ _ h => h) (by assumption) ?_ ?_
  rotate_left
  ·(intro w hSw; (try dsimp only at hSw); go_simp; (try (with_reducible rfl)))
  try simp only [Act.put, List.setIfInBounds_toArray, List.set_cons_zero, List.set_cons_succ]
  refine tkf (i := 4) (oi := ⟨some 55, _, _, _, _, _⟩) (v := ?_) rfl (by kernel_rfl) (fun _ _ _ h => h) (by assumption) ?_ ?_
  rotate_left
  ·(intro w hSw; (try dsimp only at hSw); go_simp; (try (with_reducible rfl)))
  try simp only [Act.put, List.setIfInBounds_toArray, List.set_cons_zero, List.set_cons_succ]
  refine tkf (i := 5) (oi := ⟨some 56, _, _, _, _, _⟩) (v := ?_) rfl (by kernel_rfl) (fun _ _ _ h => h) (by assumption) ?_ ?_
  rotate_left
  ·(intro w hSw; (try dsimp only at hSw); go_simp; (try (with_reducible rfl)))
  try simp only [Act.put, List.setIfInBounds_toArray, List.set_cons_zero, List.set_cons_succ]
  refine tkf (i := 6) (oi := ⟨some 57, _, _, _, _, _⟩) (v := ?_) rfl (by kernel_rfl) (fun _ _ _ h => h) (by assumption) ?_ ?_
  rotate_left
  ·(intro w hSw; (try dsimp only at hSw); go_simp; (try (with_reducible rfl)))
  try simp only [Act.put, List.setIfInBounds_toArray, List.set_cons_zero, List.set_cons_succ]
  refine wpAnyH_ready (rs := [7]) (by kernel_rfl) (by simp) ?_
  refine AllReadyH.cons (o := ⟨some 58, _, _, _, _, _⟩) rfl (fun Kz hK => ?_) AllReadyH.nil
  go_simp
  go_at_call 27
  refine (KE.out _ O5.out.drew).mono ?_
  rintro e wx ⟨rfl, rfl⟩
  go_simp
  refine hK.out _ _ ((HS.out _ O5.out.drew)) (fun hHeld => ?_)
  try simp only [Act.put, List.setIfInBounds_toArray, List.set_cons_zero, List.set_cons_succ]
  refine tkf (i := 8) (oi := ⟨some 59, _, _, _, _, _⟩) (v := ?_) rfl (by kernel_rfl) (fun _ _ _ h => h) (by assumption) ?_ ?_
  rotate_left
  ·(intro w hSw; (try dsimp only at hSw); go_simp; (try (with_reducible rfl)))
  try simp only [Act.put, List.setIfInBounds_toArray, List.set_cons_zero, List.set_cons_succ]
  refine wpAnyH_ready (rs := [9]) (by kernel_rfl) (by simp) ?_
  refine AllReadyH.cons (o := ⟨some 60, _, _, _, _, _⟩) rfl (fun Kz hK => ?_) AllReadyH.nil
  go_simp
  have OX : Below w3.heap.size w3 (w5.alloc (.cells #[.int .i64 (pagesF n : Nat), (.slice Az1 kz1 qz1), (.slice Az1 kz1 qz1), .int .i64 (aep + 1), .bool false] 47)).drew := (Rt.belowAlloc O5.out (.cells #[.int .i64 (pagesF n : Nat), (.slice Az1 kz1 qz1), (.slice Az1 kz1 qz1), .int .i64 (aep + 1), .bool false] 47)).drew
  refine hK.out _ _ ((HS.out _ OX)) (fun hHeld => ?_)
  try simp only [Act.put, List.setIfInBounds_toArray, List.set_cons_zero, List.set_cons_succ]
  refine tkf (i := 10) (oi := ⟨some 14, _, _, _, _, _⟩) (v := ?_) rfl (by kernel_rfl) (fun _ _ _ h => h) (by assumption) ?_ ?_
  rotate_left
  ·(intro w hSw; (try dsimp only at hSw); go_simp; (try (with_reducible rfl)))
  try simp only [Act.put, List.setIfInBounds_toArray, List.set_cons_zero, List.set_cons_succ]
  refine wpAnyH_done (by kernel_rfl) ?_ _
  have HLL := Lib.hid (HQ.out w5 O5.out)
  go_wp2_with fail
  generalize hw6 : (w5.alloc (.cells #[.int .i64 (pagesF n : Nat), (.slice Az1 kz1 qz1), (.slice Az1 kz1 qz1), .int .i64 (aep + 1), .bool false] 47)).drew = w6 at *
  clear hw6
  generalize hyb : w5.heap.size = yb at *
  clear hyb
  refine (KM.out w6 L b1 yb _ HLL.out).mono ?_
  rintro e w7 ⟨rfl, h7⟩
  have H7 := Lib.hid h7
  clear h7
  go_wp2_with fail
  go_loopw [11, 15] (fun sv iv wr => ∃ (i : Nat) (b' : Nat), i ≤ 10 ∧ iv = .int .i64 i ∧ sv = .pointer (some ⟨b', 0, none⟩) ∧ Hid (LL w0 wr L b' yb n (K + 1 + i))) (fun _ iv _ => 10 - (intOf iv).toNat)
  case atStart => exact ⟨0, b1, Nat.zero_le _, rfl, rfl, H7⟩
  case round =>
   obtain ⟨i, b', hi, rfl, rfl, H⟩ := hrel
   by_cases h1 : i < m
   ·have h1I : (i : Int) < (m : Int) := by omega
    by_cases h2 : i < 10
    ·have h2I : (i : Int) < 10 := by omega
     obtain ⟨ad, rfl, hSa⟩ := HA.out wr H.out.b0 i h1
     obtain ⟨c0, c1, c2⟩ := hSa
     have HC := Lib.hid (show ∀ W, Below w0.heap.size w0 W → SaAt W (ad.add (i * 3)) (F i) from fun W hb => by
      obtain ⟨ad', e, h⟩ := HA.out W hb i h1
      injection e with e
      rw [e]; exact h)
     generalize F i = sa at c0 c1 c2 HC
     obtain ⟨kd, l, s⟩ := sa
     dsimp only at c0 c1 c2
     have KS2 := Lib.hid (fun (W : World) => KS.out kd l s W _ rfl)
     have ei : IntKind.i64.wrap ((i : Int) + 1) = ((i + 1 : Nat) : Int) := IntWalk.i64_in _ (by omega)
     by_cases hs : s.size < 500
     ·rw [show decide (s.size < 500) = true by simpa using hs] at KS2
      have HSZ := Lib.hid hs
      clear hs
      go_wp2_with fail
      refine (KS2.out _).mono ?_
      rintro e w8 ⟨rfl, hb3⟩
      have H3 := Lib.hid (H.out.below hb3)
      obtain ⟨d0, d1, d2⟩ := HC.out w8 H3.out.b0
      dsimp only at d0 d1 d2
      clear hb3 c0 c1 c2
      go_wp2_with fail
      refine (KD.out w8 L b' yb (K + 1 + i) H3.out kd l s (by have := HSZ.out; omega) (by have := HK.out; omega)).mono ?_
      rintro e w9 ⟨b2, rfl, h4⟩
      have H4 := Lib.hid h4
      clear h4 d0 d1 d2
      go_wp2_with fail
      refine (KM.out w9 L b2 yb _ H4.out).mono ?_
      rintro e wa ⟨rfl, h5⟩
      have H5 := Lib.hid h5
      clear h5
      go_wp2_with fail
      go_roundw
      case rel => exact ⟨i + 1, b2, by omega, by go_num, rfl, H5⟩
      case measure => simp [intOf]; omega
     ·rw [show decide (s.size < 500) = false by simpa using hs] at KS2
      clear hs
      go_wp2_with fail
      refine (KS2.out _).mono ?_
      rintro e w8 ⟨rfl, hb3⟩
      have H3 := Lib.hid (H.out.below hb3)
      clear hb3 c0 c1 c2
      go_wp2_with fail
      refine (KM.out w8 L b' yb _ H3.out).mono ?_
      rintro e wa ⟨rfl, h5⟩
      have H5 := Lib.hid h5.more
      clear h5
      go_wp2_with fail
      go_roundw
      case rel => exact ⟨i + 1, b', by omega, by go_num, rfl, H5⟩
      case measure => simp [intOf]; omega
    ·have h2I : ¬ (i : Int) < 10 := by omega
     go_wp2_with fail
     go_ret
     exact ⟨by first | rfl | simp, H.out.b0⟩
   ·have h1I : ¬ (i : Int) < (m : Int) := by omega
    go_wp2_with fail
    go_ret
    exact ⟨by first | rfl | simp, H.out.b0⟩
end Go.Proofs.YtbelcgjbhpjnpaaGreat.Sh
