/- chain's laws: Back, Apart. -/
import Derived.Test.YtbelcgjbhpjnpaaSc9
namespace Go.Proofs.Ytbelcgjbhpjnpaa.Sh
open Go.RowKit Pk Dk Pg
attribute [local go_sem ↓] Go.wp_at_zero Go.wp_at_succ
/-- a pool of the call's own (w0: the world that the law began in) -/
def QS (w0 w : World) (pb sb : Nat) (F : List Nat) (a : St) (k : Int) : Prop := AtQ w pb sb F a k ∧ Below w0.heap.size w0 w ∧ ∀ g ∈ F, w0.heap.size ≤ g
section
variable {w0 w w' : World} {pb sb : Nat} {F : List Nat} {a : St} {k : Int}
theorem QS.below (h : QS w0 w pb sb F a k) (hb : Below w.heap.size w w') : QS w0 w' pb sb F a k := ⟨h.1.below hb, bstep h.2.1 hb, h.2.2⟩
theorem QS.step {a' : St} {k' : Int} (h : QS w0 w pb sb F a k) (A : AtQ w' pb sb F a' k') (o : Only F w w') : QS w0 w' pb sb F a' k' := ⟨A, h.2.1.trans (o.below_of h.2.1.size h.2.2), h.2.2⟩
theorem QS.post {a' : St} {k' : Int} (h : QS w0 w pb sb F a k) (p : PostQ w w' pb sb F a' k') : ∃ F', QS w0 w' pb sb F' a' k' := by
  obtain ⟨F', A, b, f⟩ := postQ_new p h.2.1.size h.2.2
  exact ⟨F', A, h.2.1.trans b, f⟩
theorem sput_any (h : QS w0 w pb sb F a k) (v : ByteArray) (hv : v.size ≤ 1024) (hk : k ≤ 999999900) {a' : St} {p e0 : Int} (hr : a.cputF v.data.toList = (a', p, e0)) :
    Calls Try.prog 9 #[pp pb, .string v] w fun e w' => e = .returned (.tuple #[.int .i64 p, .int .i64 e0]) ∧ ∃ F', QS w0 w' pb sb F' a' (k + 20) := by
  have := cput_any h.1 v hv hk
  rw [hr] at this
  refine this.mono ?_
  rintro e w' ⟨rfl, q⟩
  exact ⟨rfl, h.post q⟩
theorem sget_any (h : QS w0 w pb sb F a k) (p : Int) {l : List Int} {b : List UInt8} {e0 : Int} (hr : a.cwalkF p = (l, b, e0)) :
    Calls Try.prog 11 #[pp pb, .int .i64 p] w fun e w' => e = .returned (.tuple #[.string ⟨b.toArray⟩, .int .i64 e0]) ∧ QS w0 w' pb sb F a k := by
  have := cget_any h.1 p
  rw [hr] at this
  refine this.mono ?_
  rintro e w' ⟨rfl, A, o⟩
  exact ⟨rfl, h.step A o⟩
theorem spages_any (h : QS w0 w pb sb F a k) (p : Int) {l : List Int} {b : List UInt8} {e0 : Int} (hr : a.cwalkF p = (l, b, e0)) :
    Calls Try.prog 12 #[pp pb, .int .i64 p] w fun e w' => (∃ A c, e = .returned (.tuple #[.slice A l.length c, .int .i64 e0]) ∧ Slc w' 3 1 (.slice A l.length c) l.length (nvs' l)) ∧ QS w0 w' pb sb F a k := by
  have := cpages_any h.1 p
  rw [hr] at this
  refine this.mono ?_
  rintro e w' ⟨A, n, c, rfl, S, A2, o, _⟩
  obtain ⟨A', c', e⟩ := slc_val S
  injection e with e1 e2 e3
  subst e1 e2 e3
  exact ⟨⟨_, _, rfl, S⟩, h.step A2 o⟩
theorem sdrop_any (h : QS w0 w pb sb F a k) (p : Int) {a' : St} {e0 : Int} (hr : a.cdropF p = (a', e0)) :
    Calls Try.prog 10 #[pp pb, .int .i64 p] w fun e w' => e = .returned (.int .i64 e0) ∧ QS w0 w' pb sb F a' k := by
  have := cdrop_any h.1 p
  rw [hr] at this
  refine this.mono ?_
  rintro e w' ⟨rfl, A, o⟩
  exact ⟨rfl, h.step A o⟩
theorem sawake_any (h : QS w0 w pb sb F a k) : Calls Try.prog 8 #[] w fun e w' => e = .returned (.bool true) ∧ QS w0 w' pb sb F a k := by
  refine (awake_any w).mono ?_
  rintro e w' ⟨rfl, hb⟩
  exact ⟨rfl, h.below hb⟩
theorem spgs_any (h : QS w0 w pb sb F a k) : Calls Try.prog 17 #[sp sb] w fun e w' => (∃ A c, e = .returned (.slice A a.pages.length c)) ∧ QS w0 w' pb sb F a k := by
  refine (qpages_any h.1).mono ?_
  rintro e w' ⟨A, c, rfl, S, hb⟩
  exact ⟨⟨A, c, rfl⟩, h.below hb⟩
theorem sstore_any (h : QS w0 w pb sb F a k) : Calls Try.prog 16 #[pp pb] w fun e w' => e = .returned (sp sb) ∧ w = w' := qstore_any h.1
end
theorem sbegun_any (w : World) (fr pg : Nat) (f1 : 1 ≤ fr) (f2 : fr ≤ 32) (p1 : 1 ≤ pg) (p2 : pg ≤ 1000) :
    Calls Try.prog 7 #[.int .i64 (fr : Nat), .int .i64 (pg : Nat)] w fun e w' => ∃ pb sb rb F, e = .returned (.tuple #[pp pb, .pointer (some ⟨rb, 0, none⟩)]) ∧ QS w w' pb sb F (St.start pg) 10 := by
  refine (begun_any w fr pg f1 f2 p1 p2).mono ?_
  rintro e w' ⟨pb, sb, rb, F, rfl, A, b, f⟩
  exact ⟨pb, sb, rb, F, rfl, A, b, f⟩
theorem ba_eta (V : ByteArray) : (⟨V.data.toList.toArray⟩ : ByteArray) = V := by cases V; rfl
set_option maxRecDepth 100000 in
set_option maxHeartbeats 4000000 in
theorem back_any (s : ByteArray) (n fr : Nat) (hs : s.size ≤ maxLen) (hn : n < 65536) (hf : fr < 256) (w : World) :
    Calls Try.prog 5 #[.string s, .int .u16 (n : Nat), .int .u8 (fr : Nat)] w fun e w' => e = .returned (.bool true) ∧ Below w.heap.size w w' := by
  have KA := Lib.hid awake_any
  by_cases hbig : 1500 < s.size
  · have hbI : (1500 : Int) < (s.size : Int) := by omega
    go_enter Try.func5, Try.ntmps5
    go_wp2_with fail
    refine (KA.out _).mono ?_
    rintro e w1 ⟨rfl, hb1⟩
    have H1 := Lib.hid hb1
    clear hb1
    go_wp2_with fail
    go_ret
    exact ⟨by first | rfl | simp, H1.out⟩
  have hbI : ¬ (1500 : Int) < (s.size : Int) := by omega
  have hn1 : (n : Int).tmod 1100 = ((n % 1100 : Nat) : Int) := by rw [Int.tmod_eq_emod_of_nonneg (by omega)]; omega
  have hf1 : (fr : Int).tmod 4 = ((fr % 4 : Nat) : Int) := by rw [Int.tmod_eq_emod_of_nonneg (by omega)]; omega
  have hnl : n % 1100 < 1100 := Nat.mod_lt _ (by omega)
  have hfl : fr % 4 < 4 := Nat.mod_lt _ (by omega)
  obtain ⟨m, hm⟩ : ∃ m, n % 1100 = m := ⟨_, rfl⟩
  obtain ⟨k, hk⟩ : ∃ k, fr % 4 = k := ⟨_, rfl⟩
  rw [hm] at hn1 hnl
  rw [hk] at hf1 hfl
  have u1 : IntKind.u8.wrap (k : Int) = (k : Int) := IntWalk.u8_in _ (by omega)
  have u2 : IntKind.i64.wrap (k : Int) = (k : Int) := IntWalk.i64_in _ (by omega)
  have u3 : IntKind.i64.wrap ((k : Int) + 1) = ((k + 1 : Nat) : Int) := by rw [show (k : Int) + 1 = ((k + 1 : Nat) : Int) by omega]; exact IntWalk.i64_in _ (by omega)
  have u4 : IntKind.i64.wrap (m : Int) = (m : Int) := IntWalk.i64_in _ (by omega)
  have KL := Lib.hid (fun (W : World) => long_any s m W (by omega) (by omega))
  obtain ⟨V, hV⟩ : ∃ V : ByteArray, V = ⟨(longL s.data.toList m).toArray⟩ := ⟨_, rfl⟩
  rw [← hV] at KL
  have hvs : V.size = V.data.toList.length := by simp
  have hvl : V.size ≤ 1500 := by rw [hvs, hV]; show (longL _ m).length ≤ 1500; rw [longL_length]; simp; omega
  have KB := Lib.hid (fun (W : World) => sbegun_any W (k + 1) 20 (by omega) (by omega) (by omega) (by omega))
  obtain ⟨s1, s2, s3, s4⟩ := start_fresh 20
  by_cases hv : 1024 < V.size
  · have hvI : (1024 : Int) < (V.size : Int) := by omega
    have KP := Lib.hid (fun (W : World) (pb : Nat) => cput_big W pb V hv)
    have hpg : (St.start 20).pages.length = 0 := by rw [pages_length s1]; exact s4
    clear hbig hs hm hk hV hvs hvl s1 s2 s3 s4 hv
    unfold pp at *
    go_enter Try.func5, Try.ntmps5
    go_wp2_with fail
    refine (KL.out _).mono ?_
    rintro e w1 ⟨rfl, hb1⟩
    have H1 := Lib.hid hb1
    clear hb1
    go_wp2_with fail
    refine (KB.out _).mono ?_
    rintro e w2 ⟨pb, sb, rb, F, rfl, H2⟩
    have H2 := Lib.hid H2
    go_wp2_with fail
    refine (sawake_any H2.out).mono ?_
    rintro e w3 ⟨rfl, H3⟩
    have H3 := Lib.hid H3
    go_wp2_with fail
    refine (KP.out _ _).mono ?_
    rintro e w4 ⟨rfl, hb4⟩
    have H4 := Lib.hid (H3.out.below hb4)
    clear hb4
    go_wp2_with fail
    refine (sstore_any H4.out).mono ?_
    rintro e w5 ⟨rfl, rfl⟩
    go_wp2_with fail
    refine (spgs_any H4.out).mono ?_
    rintro e w6 ⟨⟨A, c, rfl⟩, H6⟩
    have H6 := Lib.hid H6
    go_wp2_with fail
    go_ret
    exact ⟨by first | rfl | simp, bstep H1.out H6.out.2.1⟩
  · have hvI : ¬ (1024 : Int) < (V.size : Int) := by omega
    obtain ⟨a', p, L, r1, r2, r3, r4, r5, r6, _⟩ := cput_good (v := V.data.toList) s1 (by omega) (by rw [s2]; unfold cneedF; omega) (by omega)
    have hW := Lib.hid (cwalk_good r2 r3 (by omega))
    have hP := Lib.hid r1
    have KN := Lib.hid (cneed_any (V.size : Nat) (by omega))
    rw [show cneedF (V.size : Nat) = (L.length : Int) from by rw [r3, hvs]; unfold cneedF; omega] at KN
    have hpg : a'.pages.length = L.length := by rw [pages_length r5, r6, s4]; omega
    have hvle : V.size ≤ 1024 := by omega
    clear r1 r2 r3 r4 r5 r6
    clear hbig hs hm hk hV hvs hvl s1 s2 s3 s4 hv
    unfold pp at *
    go_enter Try.func5, Try.ntmps5
    go_wp2_with fail
    refine (KL.out _).mono ?_
    rintro e w1 ⟨rfl, hb1⟩
    have H1 := Lib.hid hb1
    clear hb1
    go_wp2_with fail
    refine (KB.out _).mono ?_
    rintro e w2 ⟨pb, sb, rb, F, rfl, H2⟩
    have H2 := Lib.hid H2
    go_wp2_with fail
    refine (sawake_any H2.out).mono ?_
    rintro e w3 ⟨rfl, H3⟩
    have H3 := Lib.hid H3
    go_wp2_with fail
    refine (sput_any H3.out V hvle (by omega) hP.out).mono ?_
    rintro e w4 ⟨rfl, F4, H4⟩
    have H4 := Lib.hid H4
    go_wp2_with fail
    refine (sget_any H4.out p hW.out).mono ?_
    rintro e w5 ⟨rfl, H5⟩
    have H5 := Lib.hid H5
    rw [ba_eta]
    go_wp2_with fail
    refine (spages_any H5.out p hW.out).mono ?_
    rintro e w6 ⟨⟨A, c, rfl, S6⟩, H6⟩
    have H6 := Lib.hid H6
    clear S6
    go_wp2_with fail
    refine (KN.out _).mono ?_
    rintro e w7 ⟨rfl, rfl⟩
    go_wp2_with fail
    refine (sstore_any H6.out).mono ?_
    rintro e w7 ⟨rfl, rfl⟩
    go_wp2_with fail
    refine (spgs_any H6.out).mono ?_
    rintro e w8 ⟨⟨A8, c8, rfl⟩, H8⟩
    have H8 := Lib.hid H8
    go_wp2_with fail
    go_ret
    exact ⟨by first | rfl | simp, bstep H1.out H8.out.2.1⟩
theorem ch_drop {a c : St} {p : Int} {L : List Int} {b : List UInt8} (h : Ch a p L b) (hd : ∀ x ∈ L, c.at x = a.at x) : Ch c p L b := h.congr (fun q hq => by unfold St.readF; rw [hd q hq])
theorem ch_put {a c : St} {p : Int} {L : List Int} {b : List UInt8} (h : Ch a p L b) (hd : ∀ q, (a.at q).isSome = true → c.readF q = a.readF q) : Ch c p L b := h.congr (fun q hq => hd q (h.some q hq))
set_option maxRecDepth 100000 in
set_option maxHeartbeats 4000000 in
theorem apart3_any (a b c : ByteArray) (ha : a.size ≤ maxLen) (hb : b.size ≤ maxLen) (hc : c.size ≤ maxLen) (w : World) :
    Calls Try.prog 3 #[.string a, .string b, .string c] w fun e w' => e = .returned (.bool true) ∧ Below w.heap.size w w' := by
  have KB := Lib.hid (fun (W : World) => sbegun_any W 2 40 (by omega) (by omega) (by omega) (by omega))
  by_cases hbig : 1024 < a.size ∨ 1024 < b.size ∨ 1024 < c.size
  · have hcs : (1024 : Int) < a.size ∨ ((¬ (1024 : Int) < a.size) ∧ (1024 : Int) < b.size) ∨ ((¬ (1024 : Int) < a.size) ∧ (¬ (1024 : Int) < b.size) ∧ (1024 : Int) < c.size) := by omega
    clear hbig
    rcases hcs with h1 | ⟨h1, h2⟩ | ⟨h1, h2, h3⟩
    all_goals
      unfold pp at *
      go_enter Try.func3, Try.ntmps3
      go_wp2_with fail
      refine (KB.out _).mono ?_
      rintro e w2 ⟨pb, sb, rb, F, rfl, H2⟩
      have H2 := Lib.hid H2
      go_wp2_with fail
      refine (sawake_any H2.out).mono ?_
      rintro e w3 ⟨rfl, H3⟩
      have H3 := Lib.hid H3
      go_wp2_with fail
      refine (sawake_any H3.out).mono ?_
      rintro e w4 ⟨rfl, H4⟩
      have H4 := Lib.hid H4
      go_wp2_with fail
      go_ret
      exact ⟨by first | rfl | simp, H4.out.2.1⟩
  · have h1 : ¬ (1024 : Int) < a.size := by omega
    have h2 : ¬ (1024 : Int) < b.size := by omega
    have h3 : ¬ (1024 : Int) < c.size := by omega
    have l1 : a.size ≤ 1024 := by omega
    have l2 : b.size ≤ 1024 := by omega
    have l3 : c.size ≤ 1024 := by omega
    have z1 : a.data.toList.length = a.size := by simp
    have z2 : b.data.toList.length = b.size := by simp
    have z3 : c.data.toList.length = c.size := by simp
    have nd : ∀ k : Nat, k ≤ 1024 → (cneedF k).toNat ≤ 5 := fun k hk => by unfold cneedF; omega
    obtain ⟨s1, s2, s3, s4⟩ := start_fresh 40
    obtain ⟨a1, p1, L1, r1, c1, n1, d1, f1, g1, e1, k1, _, _, x1⟩ := cput_good (v := a.data.toList) s1 (by omega) (by rw [s2]; have := nd _ (show a.data.toList.length ≤ 1024 by omega); omega) (by omega)
    have q1 := nd _ (show a.data.toList.length ≤ 1024 by omega)
    have q2 := nd _ (show b.data.toList.length ≤ 1024 by omega)
    have q3 := nd _ (show c.data.toList.length ≤ 1024 by omega)
    obtain ⟨a2, p2, L2, r2, c2, n2, d2, f2, g2, e2, k2, _, _, x2⟩ := cput_good (a := a1) (v := b.data.toList) f1 (by omega) (by omega) (by omega)
    obtain ⟨a3, p3, L3, r3, c3, n3, d3, f3, g3, e3, k3, _, _, x3⟩ := cput_good (a := a2) (v := c.data.toList) f2 (by omega) (by omega) (by omega)
    have c13 : Ch a3 p1 L1 a.data.toList := ch_put (ch_put c1 (fun q h => (x2 q h).1)) (fun q h => (x3 q h).1)
    have c23 : Ch a3 p2 L2 b.data.toList := ch_put c2 (fun q h => (x3 q h).1)
    obtain ⟨a4, r4, f4, g4, m4, o4, k4, x4⟩ := cdrop_good c23 n2 (by omega) d2 f3
    have c14 : Ch a4 p1 L1 a.data.toList := ch_drop c13 (fun x hx => x4 x (fun h => (x2 x (c1.some x hx)).2 h))
    have c34 : Ch a4 p3 L3 c.data.toList := ch_drop c3 (fun x hx => x4 x (fun h => (x3 x (c2.some x h)).2 hx))
    have fr4 : a4.free ≥ 20 := by unfold St.free at *; rw [show a4.kept = a3.kept from by unfold St.kept; rw [o4], m4]; omega
    obtain ⟨a5, p5, L5, r5, c5, n5, d5, f5, g5, e5, k5, _, _, x5⟩ := cput_good (a := a4) (v := a.data.toList) f4 (by omega) (by omega) (by omega)
    have W1 := Lib.hid (cwalk_good (ch_put c14 (fun q h => (x5 q h).1)) n1 (by omega))
    have W3 := Lib.hid (cwalk_good (ch_put c34 (fun q h => (x5 q h).1)) n3 (by omega))
    have W5 := Lib.hid (cwalk_good c5 n5 (by omega))
    have R1 := Lib.hid r1
    have R2 := Lib.hid r2
    have R3 := Lib.hid r3
    have R4 := Lib.hid r4
    have R5 := Lib.hid r5
    have ez : a ++ (⟨#[]⟩ : ByteArray) = a := by cases a; apply ByteArray.ext; simp
    clear r1 r2 r3 r4 r5 c1 c2 c3 c5 c13 c23 c14 c34 x1 x2 x3 x4 x5 n1 n2 n3 n5 d1 d2 d3 d5 f1 f2 f3 f4 f5 g1 g2 g3 g4 g5 e1 e2 e3 e5 k1 k2 k3 k4 k5 m4 o4 fr4 nd s1 s2 s3 s4 q1 q2 q3 z1 z2 z3 hbig
    unfold pp at *
    go_enter Try.func3, Try.ntmps3
    go_wp2_with fail
    refine (KB.out _).mono ?_
    rintro e w2 ⟨pb, sb, rb, F, rfl, H2⟩
    have H2 := Lib.hid H2
    go_wp2_with fail
    refine (sawake_any H2.out).mono ?_
    rintro e w3 ⟨rfl, H3⟩
    have H3 := Lib.hid H3
    go_wp2_with fail
    refine (sput_any H3.out a l1 (by omega) R1.out).mono ?_
    rintro e w4 ⟨rfl, F4, H4⟩
    have H4 := Lib.hid H4
    go_wp2_with fail
    refine (sput_any H4.out b l2 (by omega) R2.out).mono ?_
    rintro e w5 ⟨rfl, F5, H5⟩
    have H5 := Lib.hid H5
    go_wp2_with fail
    refine (sput_any H5.out c l3 (by omega) R3.out).mono ?_
    rintro e w6 ⟨rfl, F6, H6⟩
    have H6 := Lib.hid H6
    go_wp2_with fail
    refine (sdrop_any H6.out p2 R4.out).mono ?_
    rintro e w7 ⟨rfl, H7⟩
    have H7 := Lib.hid H7
    go_wp2_with fail
    refine (sput_any H7.out a l1 (by omega) R5.out).mono ?_
    rintro e w8 ⟨rfl, F8, H8⟩
    have H8 := Lib.hid H8
    go_wp2_with fail
    refine (sget_any H8.out p1 W1.out).mono ?_
    rintro e w9 ⟨rfl, H9⟩
    have H9 := Lib.hid H9
    rw [ba_eta]
    go_wp2_with fail
    refine (sget_any H9.out p3 W3.out).mono ?_
    rintro e w10 ⟨rfl, H10⟩
    have H10 := Lib.hid H10
    rw [ba_eta]
    go_wp2_with fail
    refine (sget_any H10.out p5 W5.out).mono ?_
    rintro e w11 ⟨rfl, H11⟩
    have H11 := Lib.hid H11
    rw [ba_eta]
    go_wp2_with fail
    go_ret
    exact ⟨by first | rfl | simp, H11.out.2.1⟩
end Go.Proofs.Ytbelcgjbhpjnpaa.Sh
