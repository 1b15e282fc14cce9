/- roots: Newer, awake. -/
import Derived.Test.YtemcamhkacaoiaaRt7
namespace Go.Proofs.Ytemcamhkacaoiaa.Rt
open Go.RowKit Pk
attribute [local go_sem ↓] Go.wp_at_zero Go.wp_at_succ
theorem results_cell_three {fn : Func} {p u q : Tmp} {ty : TypeId} (h : fn.results = #[.cell p ty, .tmp u, .tmp q]) (tmps : Array Value) (P : Program) (w : World) :
    (results fn tmps).run P w = ((asAddr (tmps.getD p undef)).run P w).andThen fun a w₁ => ((loadVar ty a).run P w₁).andThen fun v w₂ => .ok (.tuple #[v, tmps.getD u undef, tmps.getD q undef]) w₂ := by
  simp only [results, h]
  simp [Sem.run_bind, Result.andThen]
theorem ret_root3 {fn : Func} {p u q : Tmp} {w : World} {g : Nat} {a b : Int} {A : Option Addr} {n c : Nat} {tmps : Array Value} (h : fn.results = #[.cell p 29, .tmp u, .tmp q]) (hp : tmps.getD p undef = .pointer (some ⟨g, 0, none⟩)) (B : Blk w g 29 #[.int .i64 a, .int .i64 b, .slice A n c]) :
    (results fn tmps).run Try.prog w = .ok (.tuple #[rootV a b A n c, tmps.getD u undef, tmps.getD q undef]) w := by
  have c0 := B.cell_some (i := 0) rfl
  have c1 := B.cell_some (i := 1) rfl
  have c2 := B.cell_some (i := 2) rfl
  rw [results_cell_three h, hp]
  clear h hp B
  unfold rootV
  go_simp
set_option maxRecDepth 100000 in
set_option maxHeartbeats 2000000 in
theorem newer_second (a b : ByteArray) (ha : a.size ≠ 64) (hb : b.size = 64) (hg : goodR b.data.toList) (w : World) :
    Calls Try.prog 14 #[.string a, .string b] w fun e w' => (∃ ep lg A n c, e = .returned (.tuple #[rootV ep lg A n c, .int .i64 1, .bool true])) ∧ Below w.heap.size w w' := by
  have B0 := Lib.hid (Blk.new w 29 #[.int .i64 0, .int .i64 0, .slice none 0 0])
  have O0 := Lib.hid (belowAlloc (Below.refl w.heap.size w) (.cells #[.int .i64 0, .int .i64 0, .slice none 0 0] 29))
  have K0 := Lib.hid (fun w => rget_len a ha w)
  have K1 := Lib.hid (fun w => rget_any b hb w)
  have HG := Lib.hid hg
  clear hg
  unfold rootV at *
  go_enter Try.func14, Try.ntmps14
  go_wp2_with fail
  refine (K0.out _).mono ?_
  rintro e w1 ⟨rfl, hb1⟩
  have a2 := belowAlloc (Below.refl w1.heap.size w1) (.cells #[.int .i64 0, .int .i64 0, .slice none 0 0] 29)
  have O2 := Lib.hid (bstep (bstep O0.out hb1) a2)
  have B2 := Lib.hid ((B0.out.below hb1 B0.out.lt).alloc (.cells #[.int .i64 0, .int .i64 0, .slice none 0 0] 29))
  have X2 := Lib.hid (Blk.new w1 29 #[.int .i64 0, .int .i64 0, .slice none 0 0])
  clear hb1 a2
  go_wp2_with fail
  generalize hw2 : (w1.alloc (.cells #[.int .i64 0, .int .i64 0, .slice none 0 0] 29)) = w2 at *
  clear hw2
  refine (K1.out _).mono ?_
  rintro e w3 ⟨hx, hb3⟩
  obtain ⟨ep, lg, A, n, c, rfl⟩ : ∃ ep lg A n c, e = .returned (.tuple #[.agg #[.int .i64 ep, .int .i64 lg, .slice A n c], .bool true]) := by
    rcases hx with ⟨_, A, c, rfl, _⟩ | ⟨h0, _⟩
    · exact ⟨_, _, _, _, _, rfl⟩
    · exact absurd HG.out h0
  have a4 := belowAlloc (Below.refl w3.heap.size w3) (.cells #[.int .i64 ep, .int .i64 lg, .slice A n c] 29)
  have O4 := Lib.hid (bstep (bstep O2.out hb3) a4)
  have B4 := Lib.hid ((B2.out.below hb3 B2.out.lt).alloc (.cells #[.int .i64 ep, .int .i64 lg, .slice A n c] 29))
  have X4 := Lib.hid ((X2.out.below hb3 X2.out.lt).alloc (.cells #[.int .i64 ep, .int .i64 lg, .slice A n c] 29))
  have Y4 := Lib.hid (Blk.new w3 29 #[.int .i64 ep, .int .i64 lg, .slice A n c])
  have zf0 : (w3.alloc (.cells #[.int .i64 ep, .int .i64 lg, .slice A n c] 29)).frozen? ⟨w.heap.size, 0, none⟩ = false := B4.out.frozen 0 (by simp)
  have zf1 : (w3.alloc (.cells #[.int .i64 ep, .int .i64 lg, .slice A n c] 29)).frozen? ⟨w.heap.size, 1, none⟩ = false := B4.out.frozen 1 (by simp)
  have zf2 : (w3.alloc (.cells #[.int .i64 ep, .int .i64 lg, .slice A n c] 29)).frozen? ⟨w.heap.size, 2, none⟩ = false := B4.out.frozen 2 (by simp)
  have zc0 : (w3.alloc (.cells #[.int .i64 ep, .int .i64 lg, .slice A n c] 29)).cell? ⟨w.heap.size, 0, none⟩ = some (.int .i64 0) := B4.out.cell_some (i := 0) rfl
  have zc1 : (w3.alloc (.cells #[.int .i64 ep, .int .i64 lg, .slice A n c] 29)).cell? ⟨w.heap.size, 1, none⟩ = some (.int .i64 0) := B4.out.cell_some (i := 1) rfl
  have zc2 : (w3.alloc (.cells #[.int .i64 ep, .int .i64 lg, .slice A n c] 29)).cell? ⟨w.heap.size, 2, none⟩ = some (.slice none 0 0) := B4.out.cell_some (i := 2) rfl
  have ZB := Lib.hid (((B4.out.set_ 0 (.int .i64 ep)).set_ 1 (.int .i64 lg)).set_ 2 (.slice A n c))
  have ZO := Lib.hid (((((Only.of_below (S := []) O4.out).setCell (p := ⟨w.heap.size, 0, none⟩) (fun h => absurd h (by simp)) (.int .i64 ep)).setCell (p := ⟨w.heap.size, 1, none⟩) (fun h => absurd h (by simp)) (.int .i64 lg)).setCell (p := ⟨w.heap.size, 2, none⟩) (fun h => absurd h (by simp)) (.slice A n c)).below_nil)
  clear hb3 a4 hx
  go_wp2_with fail
  exact bodyPost_ret (ret_root3 rfl rfl ZB.out) rfl ⟨⟨_, _, _, _, _, rfl⟩, ZO.out⟩
theorem right0 : rightR 3 117 (natI [5, 9]) := by
  refine ⟨by omega, by omega, by omega, by omega, by decide, ?_⟩
  intro i x hx
  have hi : i < 2 := (List.getElem?_eq_some_iff.1 hx).1
  rcases (show i = 0 ∨ i = 1 by omega) with rfl | rfl
  · simp [natI] at hx; subst hx; simp [natI]
  · simp [natI] at hx; subst hx; simp [natI]
set_option maxRecDepth 100000 in
set_option maxHeartbeats 4000000 in
theorem awake13_any (w : World) :
    Calls Try.prog 5 #[] w fun e w' => e = .returned (.bool true) ∧ Below w.heap.size w w' := by
  have O0 := Lib.hid (belowAlloc (Below.refl w.heap.size w) (.cells #[.int .i64 5, .int .i64 9] 3))
  have B0 := Blk.new w 3 #[.int .i64 5, .int .i64 9]
  have I0 : IntsAt (w.alloc (.cells #[.int .i64 5, .int .i64 9] 3)) (some ⟨w.heap.size, 0, none⟩) 2 (natI [5, 9]) := by
    refine ⟨rfl, fun k x hx => ⟨_, rfl, ?_⟩⟩
    have hi : k < 2 := (List.getElem?_eq_some_iff.1 hx).1
    rcases (show k = 0 ∨ k = 1 by omega) with rfl | rfl
    · simp [natI] at hx; subst hx; exact B0.cell_some (i := 0) rfl
    · simp [natI] at hx; subst hx; exact B0.cell_some (i := 1) rfl
  have KP := Lib.hid (rput_yes (w := w.alloc (.cells #[.int .i64 5, .int .i64 9] 3)) 3 117 (some ⟨w.heap.size, 0, none⟩) 2 2 [5, 9] I0 (Nat.le_refl _) right0)
  obtain ⟨S, hS⟩ : ∃ S : ByteArray, (⟨(rootL 3 117 [5, 9]).toArray⟩ : ByteArray) = S := ⟨_, rfl⟩
  have hSl : S.data.toList = rootL 3 117 [5, 9] := by rw [← hS]
  have hSz : S.size = 64 := by
    have := rootL_length 3 117 [5, 9] (by decide)
    rw [← hSl] at this
    simpa using this
  have hgood : goodR S.data.toList := by rw [hSl]; exact good_root 3 117 [5, 9] right0
  have hdec := dec_root 3 117 [5, 9] right0
  rw [← hSl] at hdec
  have KG := Lib.hid (fun w => rget_any S hSz w)
  have KN := Lib.hid (fun w => newer_second ⟨#[]⟩ S (by decide) hSz hgood w)
  have HG := Lib.hid hgood
  have HD := Lib.hid hdec
  have KE := Lib.hid (fun w => need_any 117 (by omega) w)
  rw [show needF 117 = 2 from by decide] at KE
  have HSI := Lib.hid hSz
  rw [hS] at KP
  clear B0 I0 hS hSl hgood hdec
  unfold rootV at *
  have hSI : (S.size : Int) = 64 := by omega
  go_enter Try.func5, Try.ntmps5
  go_wp2_with fail
  refine KP.out.mono ?_
  rintro e w1 ⟨rfl, hb1⟩
  have O1 := Lib.hid (bstep O0.out hb1)
  clear hb1 KP
  go_wp2_with fail
  refine (KG.out _).mono ?_
  rintro e w2 ⟨hx, hb2⟩
  obtain ⟨A, c, rfl, hI⟩ : ∃ A c, e = .returned (.tuple #[.agg #[.int .i64 3, .int .i64 117, .slice A 2 c], .bool true]) ∧ IntsAt w2 A 2 (natI [5, 9]) := by
    rcases hx with ⟨_, A, c, h1, h2, _⟩ | ⟨h0, _⟩
    · rw [HD.out.1, HD.out.2.1, HD.out.2.2.1] at h1
      rw [HD.out.2.2.1, HD.out.2.2.2] at h2
      exact ⟨A, c, h1, h2⟩
    · exact absurd HG.out h0
  have a3 := belowAlloc (Below.refl w2.heap.size w2) (.cells #[.int .i64 3, .int .i64 117, .slice A 2 c] 29)
  have O3 := Lib.hid (bstep (bstep O1.out hb2) a3)
  have R3 := Lib.hid (Blk.new w2 29 #[.int .i64 3, .int .i64 117, .slice A 2 c])
  have I3 := Lib.hid (hI.below a3)
  clear hb2 a3 hx hI
  go_wp2_with fail
  generalize hw3 : (w2.alloc (.cells #[.int .i64 3, .int .i64 117, .slice A 2 c] 29)) = w3 at *
  clear hw3
  refine (KN.out _).mono ?_
  rintro e w4 ⟨⟨ep, lg, A', n', c', rfl⟩, hb4⟩
  have a5 := belowAlloc (Below.refl w4.heap.size w4) (.cells #[.int .i64 ep, .int .i64 lg, .slice A' n' c'] 29)
  have O5 := Lib.hid (bstep (bstep O3.out hb4) a5)
  have R5 := Lib.hid ((R3.out.below hb4 R3.out.lt).alloc (.cells #[.int .i64 ep, .int .i64 lg, .slice A' n' c'] 29))
  have I5 := (I3.out.below hb4).below a5
  obtain ⟨ad, x, rfl, hx1, ck⟩ := I5.at 1 (by omega)
  simp [natI] at hx1
  subst hx1
  have ck2 : (w4.alloc (.cells #[.int .i64 ep, .int .i64 lg, .slice A' n' c'] 29)).cell? ⟨ad.block, ad.off + 1, none⟩ = some (.int .i64 9) := ck
  have r0 : (w4.alloc (.cells #[.int .i64 ep, .int .i64 lg, .slice A' n' c'] 29)).cell? ⟨w2.heap.size, 0, none⟩ = some (.int .i64 3) := R5.out.cell_some (i := 0) rfl
  have r1 : (w4.alloc (.cells #[.int .i64 ep, .int .i64 lg, .slice A' n' c'] 29)).cell? ⟨w2.heap.size, 1, none⟩ = some (.int .i64 117) := R5.out.cell_some (i := 1) rfl
  have r2 : (w4.alloc (.cells #[.int .i64 ep, .int .i64 lg, .slice A' n' c'] 29)).cell? ⟨w2.heap.size, 2, none⟩ = some (.slice (some ad) 2 c) := R5.out.cell_some (i := 2) rfl
  clear hb4 a5 I5 ck
  go_wp2_with fail
  generalize hw5 : (w4.alloc (.cells #[.int .i64 ep, .int .i64 lg, .slice A' n' c'] 29)) = w5 at *
  clear hw5
  refine (KE.out _).mono ?_
  rintro e w6 ⟨rfl, hb6⟩
  have O6 := Lib.hid (bstep O5.out hb6)
  clear hb6
  go_wp2_with fail
  go_ret
  exact ⟨by first | rfl | simp, O6.out⟩
end Go.Proofs.Ytemcamhkacaoiaa.Rt
