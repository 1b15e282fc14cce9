/- the program's chains beside the document's: a call of both. -/
import Derived.Test.YtbelcgjbhpjnpaaGreatCw
set_option linter.all false
set_option linter.unusedVariables false
set_option linter.unusedSimpArgs false
namespace Go.Proofs.YtbelcgjbhpjnpaaGreat.Sh
open Go.RowKit Pk Dk Pg
attribute [local go_sem ↓] Go.wp_at_zero Go.wp_at_succ
/-- what lies in blocks of an act stays -/
def KeepA (w W : World) : Prop := ∀ g cs, Blk w g 102 cs → Blk W g 102 cs
theorem KeepA.below {w W : World} (hb : Below w.heap.size w W) : KeepA w W := fun _ _ B => Blk.below B hb B.lt
section
variable {w w' : World} {pb sb xq rs n K K' : Nat} {F : List Nat} {a a' : St} {k k' : Int}
theorem RH.prog (h : RH w xq rs n K) (A : AtQ w pb sb F a k) (o : Only F w w') : RH w' xq rs n K := by
 obtain ⟨y, m, s, e1, e2, rfl, AP, _⟩ := A
 obtain ⟨q, ⟨fv, nv, ov, R⟩, H, f⟩ := h
 exact ⟨q, ⟨fv, nv, ov, R.only o (R.apart AP)⟩, H, f⟩
theorem AtQ.doc (A : AtQ w pb sb F a k) (h : RH w xq rs n K) (o : Only [xq, rs] w w') : AtQ w' pb sb F a k := by
 refine A.only o (fun g hg hm => ?_)
 obtain ⟨y, m, s, e1, e2, rfl, AP, _⟩ := A
 obtain ⟨q, ⟨fv, nv, ov, R⟩, H, f⟩ := h
 simp only [List.mem_cons, List.not_mem_nil, or_false] at hm
 rcases hm with rfl | rfl
 ·exact R.apart AP _ (by simp) hg
 ·exact R.apart AP _ (by simp) hg
theorem AtQ.keep (A : AtQ w pb sb F a k) (o : Only F w w') : KeepA w w' := by
 obtain ⟨y, m, s, e1, e2, rfl, AP, _⟩ := A
 exact fun g cs B => B.only o (AP.alien B (by decide) (by decide) (by decide) (by decide) (by decide) (by decide) (by decide) (by decide) (by decide))
theorem RH.keep (h : RH w xq rs n K) (o : Only [xq, rs] w w') : KeepA w w' := by
 obtain ⟨q, ⟨fv, nv, ov, R⟩, H, f⟩ := h
 refine fun g cs B => B.only o (fun hm => ?_)
 simp only [List.mem_cons, List.not_mem_nil, or_false] at hm
 rcases hm with rfl | rfl
 ·exact B.ne_ R.hp (by decide) rfl
 ·exact B.ne_ R.hs.hb (by decide) rfl
end
/-- a clean pool and the document's in whatever state, between two calls -/
structure CX (w0 w : World) (pb sb : Nat) (a : St) (k : Int) (xq rs n K : Nat) : Prop where
 p : ∃ F, AtQ w pb sb F a k ∧ ∀ g ∈ F, w0.heap.size ≤ g
 x : RH w xq rs n K
 b : Below w0.heap.size w0 w
 f : w0.heap.size ≤ xq ∧ w0.heap.size ≤ rs
section
variable {w0 w w' : World} {pb sb xq rs n K K' : Nat} {F : List Nat} {a a' : St} {k k' : Int}
theorem CX.below (S : CX w0 w pb sb a k xq rs n K) (hb : Below w.heap.size w w') : CX w0 w' pb sb a k xq rs n K := by
 obtain ⟨F, A, f⟩ := S.p
 exact ⟨⟨F, A.below hb, f⟩, S.x.below hb, bstep S.b hb, S.f⟩
theorem CX.more (S : CX w0 w pb sb a k xq rs n K) (hk : k ≤ k') (hK : K ≤ K') : CX w0 w pb sb a k' xq rs n K' := by
 obtain ⟨F, A, f⟩ := S.p
 exact ⟨⟨F, A.le hk, f⟩, S.x.more hK, S.b, S.f⟩
theorem CX.prog (S : CX w0 w pb sb a k xq rs n K) (A : AtQ w pb sb F a k) (f : ∀ g ∈ F, w0.heap.size ≤ g) (p : PostQ w w' pb sb F a' k') : CX w0 w' pb sb a' k' xq rs n K ∧ KeepA w w' := by
 obtain ⟨F', A', o, fr⟩ := p
 exact ⟨⟨⟨F', A', fun g hg => (fr g hg).elim (f g) (fun h => by have := S.b.size; omega)⟩, S.x.prog A o, S.b.trans (o.below_of S.b.size f), S.f⟩, A.keep o⟩
theorem CX.doc (S : CX w0 w pb sb a k xq rs n K) (x : RH w' xq rs n K') (o : Only [xq, rs] w w') : CX w0 w' pb sb a k xq rs n K' ∧ KeepA w w' := by
 obtain ⟨F, A, f⟩ := S.p
 exact ⟨⟨⟨F, A.doc S.x o, f⟩, x, S.b.trans (o.below_of S.b.size (fun g hg => by
  simp only [List.mem_cons, List.not_mem_nil, or_false] at hg
  rcases hg with rfl | rfl
  ·exact S.f.1
  ·exact S.f.2)), S.f⟩, S.x.keep o⟩
theorem CX.put (S : CX w0 w pb sb a k xq rs n K) (v : ByteArray) (hv : v.size ≤ 1024) (hk : k ≤ 3999999999999999900) {p e0 : Int} (hr : a.cputF v.data.toList = (a', p, e0)) :
  Calls Tryz.prog 64 #[pp pb, .string v] w fun e W => e = .returned (.tuple #[.int .i64 p, .int .i64 e0]) ∧ CX w0 W pb sb a' (k + 20) xq rs n K ∧ KeepA w W := by
 obtain ⟨F, A, f⟩ := S.p
 have := cput_any A v hv hk
 rw [hr] at this
 refine this.mono ?_
 rintro e w1 ⟨rfl, q⟩
 exact ⟨rfl, S.prog A f q⟩
theorem CX.get (S : CX w0 w pb sb a k xq rs n K) (p : Int) :
  Calls Tryz.prog 66 #[pp pb, .int .i64 p] w fun e W => e = .returned (.tuple #[.string ⟨(a.cwalkF p).2.1.toArray⟩, .int .i64 (a.cwalkF p).2.2]) ∧ CX w0 W pb sb a k xq rs n K ∧ KeepA w W := by
 obtain ⟨F, A, f⟩ := S.p
 refine (cget_any A p).mono ?_
 rintro e w1 ⟨rfl, A1, o⟩
 exact ⟨rfl, S.prog A f (.self A1 o)⟩
theorem CX.drop (S : CX w0 w pb sb a k xq rs n K) (p : Int) {e0 : Int} (hr : a.cdropF p = (a', e0)) :
  Calls Tryz.prog 65 #[pp pb, .int .i64 p] w fun e W => e = .returned (.int .i64 e0) ∧ CX w0 W pb sb a' k xq rs n K ∧ KeepA w W := by
 obtain ⟨F, A, f⟩ := S.p
 have := cdrop_any A p
 rw [hr] at this
 refine this.mono ?_
 rintro e w1 ⟨rfl, A1, o⟩
 exact ⟨rfl, S.prog A f (.self A1 o)⟩
/-- what chain.Pages gives -/
def PG16 (w0 w W : World) (pb sb : Nat) (a : St) (k : Int) (xq rs n K : Nat) (e : Ending) : Prop := ∃ A c l er, e = .returned (.tuple #[.slice A l.length c, .int .i64 er]) ∧ Slc W 3 1 (.slice A l.length c) l.length (nvs' l) ∧ l.length ≤ 5 ∧ CX w0 W pb sb a k xq rs n K ∧ KeepA w W ∧ ∀ g ∈ ownB (.slice A l.length c), w.heap.size ≤ g
theorem CX.pages (S : CX w0 w pb sb a k xq rs n K) (p : Int) :
  Calls Tryz.prog 131 #[pp pb, .int .i64 p] w fun e W => PG16 w0 w W pb sb a k xq rs n K e := by
 obtain ⟨F, A, f⟩ := S.p
 refine (cpages_any A p).mono ?_
 rintro e w1 ⟨AA, m, c, rfl, SL, A1, o, fr⟩
 obtain ⟨A', c', e⟩ := slc_val SL
 injection e with e1 e2 e3
 subst e1 e2 e3
 obtain ⟨C1, k1⟩ := S.prog A f (.self A1 o)
 have hl := walkF_len a 5 p [] []
 exact ⟨_, _, _, _, rfl, SL, by simpa [St.cwalkF] using hl, C1, k1, fr⟩
theorem CX.rput (S : CX w0 w pb sb a k xq rs n K) (hK : K + 6 ≤ 999999999999) (v : ByteArray) (hv : v.size ≤ 1024) :
  Calls Tryz.prog 133 #[rp xq, .string v] w fun e W => (∃ l er, e = .returned (.tuple #[.int .i64 l, .int .i64 er])) ∧ CX w0 W pb sb a k xq rs n (K + 6) ∧ KeepA w W := by
 refine (rput16_any S.x hK v hv).mono ?_
 rintro e w1 ⟨l, er, rfl, R, o⟩
 exact ⟨⟨l, er, rfl⟩, S.doc R o⟩
/-- what the document's Walk gives -/
def RW16 (w0 w W : World) (pb sb : Nat) (a : St) (k : Int) (xq rs n K : Nat) (e : Ending) : Prop := ∃ A c l s er, e = .returned (.tuple #[.slice A (List.length l) c, .string s, .int .i64 er]) ∧ Slc W 3 1 (.slice A l.length c) l.length (nvs' l) ∧ l.length ≤ 5 ∧ CX w0 W pb sb a k xq rs n K ∧ KeepA w W ∧ Only [xq, rs] w W
theorem CX.rwalk (S : CX w0 w pb sb a k xq rs n K) (hK : K + 5 ≤ 999999999999) (p : Int) :
  Calls Tryz.prog 135 #[rp xq, .int .i64 p] w fun e W => RW16 w0 w W pb sb a k xq rs n (K + 5) e := by
 refine (rwalk_any S.x hK p).mono ?_
 rintro e w1 ⟨A, i, c, l, s, er, rfl, SL, rfl, hi, R, o, _⟩
 obtain ⟨C1, k1⟩ := S.doc R o
 exact ⟨A, c, l, s, er, rfl, SL, hi, C1, k1, o⟩
theorem CX.store (S : CX w0 w pb sb a k xq rs n K) : Calls Tryz.prog 60 #[pp pb] w fun e W => e = .returned (sp sb) ∧ w = W := by
 obtain ⟨F, A, f⟩ := S.p
 exact qstore_any A
theorem CX.count (S : CX w0 w pb sb a k xq rs n K) : Calls Tryz.prog 23 #[sp sb] w fun e W => (∃ x y z : Nat, e = .returned (.tuple #[.int .i64 (a.free : Nat), .int .i64 x, .int .i64 y, .int .i64 z])) ∧ CX w0 W pb sb a k xq rs n K := by
 obtain ⟨F, A, f⟩ := S.p
 refine (qcount_any A).mono ?_
 rintro e w1 ⟨h, hb⟩
 exact ⟨h, S.below hb⟩
end
/-- some Boolean came back -/
def RB16 (e : Ending) : Prop := ∃ β : Bool, e = .returned (.bool β)
theorem RB16.mk (β : Bool) : RB16 (.returned (.bool β)) := ⟨β, rfl⟩
/-- an act in its block -/
def ActAt16 (W : World) (q : Nat) (kd l : Int) (s : ByteArray) : Prop := Blk W q 102 #[.int .i64 kd, .int .i64 l, .string s]
/-- the world in which do works -/
def doW16 (w : World) (kd l : Int) (s : ByteArray) : World := w.alloc (.cells #[.int .i64 kd, .int .i64 l, .string s] 102)
theorem doW16_act (w : World) (kd l : Int) (s : ByteArray) : ActAt16 (doW16 w kd l s) w.heap.size kd l s := Blk.new w 102 #[.int .i64 kd, .int .i64 l, .string s]
theorem doW16_below (w : World) (kd l : Int) (s : ByteArray) : Below w.heap.size w (doW16 w kd l s) := Rt.belowAlloc (Below.refl _ _) _
set_option maxRecDepth 100000 in
set_option maxHeartbeats 4000000 in
theorem CX.do_put {w0 w : World} {pb sb xq rs n K : Nat} {a a' : St} {k : Int} (S : CX w0 w pb sb a k xq rs n K) (hK : K + 6 ≤ 999999999999) (hk : k ≤ 3999999999999999900) (kd l : Int) (s : ByteArray) (h0 : kd = 0 ∨ kd = 1 ∨ kd = 2) (hs : s.size ≤ 1024) {p e0 : Int} (hr : a.cputF s.data.toList = (a', p, e0)) :
  Calls Tryz.prog 63 #[pp pb, rp xq, .agg #[.int .i64 kd, .int .i64 l, .string s]] w fun e W => RB16 e ∧ CX w0 W pb sb a' (k + 20) xq rs n (K + 6) := by
 have KP := Lib.hid (fun (W : World) (T : CX w0 W pb sb a k xq rs n K) => T.put s hs hk hr)
 have KR := Lib.hid (fun (W : World) (T : CX w0 W pb sb a' (k + 20) xq rs n K) => T.rput hK s hs)
 have H0 := Lib.hid (show CX w0 (doW16 w kd l s) pb sb a k xq rs n K ∧ ActAt16 (doW16 w kd l s) w.heap.size kd l s from ⟨S.below (doW16_below w kd l s), doW16_act w kd l s⟩)
 have HE := Lib.hid (show ∀ (x y : Int), ∃ b : Bool, (x == y) = b from fun x y => ⟨_, rfl⟩)
 clear S hr
 unfold pp rp at *
 rcases h0 with rfl | rfl | rfl
 ·go_enter Tryz.func63, Tryz.ntmps63
  go_wp2_with fail
  rw [show w.alloc (.cells #[.int .i64 0, .int .i64 l, .string s] 102) = doW16 w 0 l s from rfl]
  generalize doW16 w 0 l s = w1 at *
  have c0 := H0.out.2.cell_some (i := 0) rfl
  have c2 := H0.out.2.cell_some (i := 2) rfl
  go_wp2_with fail
  refine (KP.out _ H0.out.1).mono ?_
  rintro e w2 ⟨rfl, C2, k2⟩
  have H2 := Lib.hid (And.intro C2 (k2 _ _ H0.out.2))
  have b2 := H2.out.2.cell_some (i := 2) rfl
  clear c0 c2 C2 k2
  go_wp2_with fail
  refine (KR.out _ H2.out.1).mono ?_
  rintro e w3 ⟨⟨l3, e3, rfl⟩, C3, k3⟩
  have C3 := Lib.hid C3
  obtain ⟨t1, ht1⟩ := HE.out p l3
  obtain ⟨t2, ht2⟩ := HE.out e0 e3
  clear b2 k3
  cases t1
  all_goals
   cases t2
   all_goals
    go_wp2_with fail
    go_ret
    exact ⟨RB16.mk _, C3.out⟩
 ·go_enter Tryz.func63, Tryz.ntmps63
  go_wp2_with fail
  rw [show w.alloc (.cells #[.int .i64 1, .int .i64 l, .string s] 102) = doW16 w 1 l s from rfl]
  generalize doW16 w 1 l s = w1 at *
  have c0 := H0.out.2.cell_some (i := 0) rfl
  have c2 := H0.out.2.cell_some (i := 2) rfl
  go_wp2_with fail
  refine (KP.out _ H0.out.1).mono ?_
  rintro e w2 ⟨rfl, C2, k2⟩
  have H2 := Lib.hid (And.intro C2 (k2 _ _ H0.out.2))
  have b2 := H2.out.2.cell_some (i := 2) rfl
  clear c0 c2 C2 k2
  go_wp2_with fail
  refine (KR.out _ H2.out.1).mono ?_
  rintro e w3 ⟨⟨l3, e3, rfl⟩, C3, k3⟩
  have C3 := Lib.hid C3
  obtain ⟨t1, ht1⟩ := HE.out p l3
  obtain ⟨t2, ht2⟩ := HE.out e0 e3
  clear b2 k3
  cases t1
  all_goals
   cases t2
   all_goals
    go_wp2_with fail
    go_ret
    exact ⟨RB16.mk _, C3.out⟩
 ·go_enter Tryz.func63, Tryz.ntmps63
  go_wp2_with fail
  rw [show w.alloc (.cells #[.int .i64 2, .int .i64 l, .string s] 102) = doW16 w 2 l s from rfl]
  generalize doW16 w 2 l s = w1 at *
  have c0 := H0.out.2.cell_some (i := 0) rfl
  have c2 := H0.out.2.cell_some (i := 2) rfl
  go_wp2_with fail
  refine (KP.out _ H0.out.1).mono ?_
  rintro e w2 ⟨rfl, C2, k2⟩
  have H2 := Lib.hid (And.intro C2 (k2 _ _ H0.out.2))
  have b2 := H2.out.2.cell_some (i := 2) rfl
  clear c0 c2 C2 k2
  go_wp2_with fail
  refine (KR.out _ H2.out.1).mono ?_
  rintro e w3 ⟨⟨l3, e3, rfl⟩, C3, k3⟩
  have C3 := Lib.hid C3
  obtain ⟨t1, ht1⟩ := HE.out p l3
  obtain ⟨t2, ht2⟩ := HE.out e0 e3
  clear b2 k3
  cases t1
  all_goals
   cases t2
   all_goals
    go_wp2_with fail
    go_ret
    exact ⟨RB16.mk _, C3.out⟩
set_option maxRecDepth 100000 in
set_option maxHeartbeats 4000000 in
theorem CX.do_neg {w0 w : World} {pb sb xq rs n K : Nat} {a : St} {k : Int} (S : CX w0 w pb sb a k xq rs n K) (hK : K + 10 ≤ 999999999999) (kd l : Int) (s : ByteArray) (h0 : kd < 0) :
  Calls Tryz.prog 63 #[pp pb, rp xq, .agg #[.int .i64 kd, .int .i64 l, .string s]] w fun e W => RB16 e ∧ CX w0 W pb sb a k xq rs n (K + 10) := by
 have q0 : (kd == 0) = false := by rw [beq_eq_false_iff_ne]; omega
 have q1 : (kd == 1) = false := by rw [beq_eq_false_iff_ne]; omega
 have q2 : (kd == 2) = false := by rw [beq_eq_false_iff_ne]; omega
 have q5 : (kd == 5) = false := by rw [beq_eq_false_iff_ne]; omega
 have q6 : (kd == 6) = false := by rw [beq_eq_false_iff_ne]; omega
 have q7 : (kd == 7) = false := by rw [beq_eq_false_iff_ne]; omega
 have q8 : (kd == 8) = false := by rw [beq_eq_false_iff_ne]; omega
 have q9 : (kd == 9) = false := by rw [beq_eq_false_iff_ne]; omega
 have KG := Lib.hid (fun (W : World) (T : CX w0 W pb sb a k xq rs n K) => T.get l)
 have KM := Lib.hid (fun (W : World) (T : CX w0 W pb sb a k xq rs n K) => T.pages l)
 have KW1 := Lib.hid (fun (W : World) (T : CX w0 W pb sb a k xq rs n K) => T.rwalk (by omega) l)
 have KW2 := Lib.hid (fun (W : World) (T : CX w0 W pb sb a k xq rs n (K + 5)) => T.rwalk (by omega) l)
 have H0 := Lib.hid (show CX w0 (doW16 w kd l s) pb sb a k xq rs n K ∧ ActAt16 (doW16 w kd l s) w.heap.size kd l s from ⟨S.below (doW16_below w kd l s), doW16_act w kd l s⟩)
 generalize a.cwalkF l = R at KG
 generalize (⟨R.2.1.toArray⟩ : ByteArray) = gs at KG
 generalize R.2.2 = ge at KG
 clear S h0
 unfold pp rp at *
 go_enter Tryz.func63, Tryz.ntmps63
 go_wp2_with fail
 rw [show w.alloc (.cells #[.int .i64 kd, .int .i64 l, .string s] 102) = doW16 w kd l s from rfl]
 generalize doW16 w kd l s = w1 at *
 have c0 := H0.out.2.cell_some (i := 0) rfl
 have c1 := H0.out.2.cell_some (i := 1) rfl
 go_wp2_with fail
 refine (KG.out _ H0.out.1).mono ?_
 rintro e w2 ⟨rfl, C2, k2⟩
 have H2 := Lib.hid (And.intro C2 (k2 _ _ H0.out.2))
 have b1 := H2.out.2.cell_some (i := 1) rfl
 clear c0 c1 C2 k2
 go_wp2_with fail
 refine (KM.out _ H2.out.1).mono ?_
 rintro e w3 ⟨A3, c3, l3, e3, rfl, S3, n3, C3, k3, f3⟩
 have H3 := Lib.hid (And.intro C3 (And.intro (k3 _ _ H2.out.2) S3))
 have F3 := Lib.hid f3
 have d1 := H3.out.2.1.cell_some (i := 1) rfl
 clear b1 C3 k3 S3 f3
 go_wp2_with fail
 refine (KW1.out _ H3.out.1).mono ?_
 rintro e w4 ⟨A4, c4, l4, s4, e4, rfl, S4, n4, C4, k4, o4⟩
 have H4 := Lib.hid (And.intro C4 (And.intro (k4 _ _ H3.out.2.1) (H3.out.2.2.only o4 (fun g hg hm => by
  obtain ⟨q, ⟨fv, nv, ov, R⟩, _, _⟩ := H3.out.1.x
  simp only [List.mem_cons, List.not_mem_nil, or_false] at hm
  rcases hm with rfl | rfl
  ·exact slc_ne H3.out.2.2 R.hp (by decide) hg
  ·exact slc_ne H3.out.2.2 R.hs.hb (by decide) hg))))
 have g1 := H4.out.2.1.cell_some (i := 1) rfl
 clear d1 C4 k4 S4 o4
 go_wp2_with fail
 refine (KW2.out _ H4.out.1).mono ?_
 rintro e w5 ⟨A5, c5, l5, s5, e5, rfl, S5, n5, C5, k5, o5⟩
 have H5 := Lib.hid (And.intro C5 (And.intro (H4.out.2.2.only o5 (fun g hg hm => by
  obtain ⟨q, ⟨fv, nv, ov, R⟩, _, _⟩ := H4.out.1.x
  simp only [List.mem_cons, List.not_mem_nil, or_false] at hm
  rcases hm with rfl | rfl
  ·exact slc_ne H4.out.2.2 R.hp (by decide) hg
  ·exact slc_ne H4.out.2.2 R.hs.hb (by decide) hg)) S5))
 clear g1 C5 k5 S5 o5
 obtain ⟨t1, ht1⟩ : ∃ t : Bool, (gs.toList == s5.toList) = t := ⟨_, rfl⟩
 obtain ⟨t2, ht2⟩ : ∃ t : Bool, (ge == e5) = t := ⟨_, rfl⟩
 obtain ⟨t3, ht3⟩ : ∃ t : Bool, (e3 == e5) = t := ⟨_, rfl⟩
 cases t1
 ·go_wp2_with fail
  go_ret
  exact ⟨RB16.mk _, H5.out.1⟩
 ·have KI := Lib.hid (fun (W : World) (hb : Below w5.heap.size w5 W) => Rt.ints_any (w := W) A3 A5 l3.length c3 l5.length c5 l3 l5 ((ints_of2 H5.out.2.1).below hb) ((ints_of2 H5.out.2.2).below hb) (by omega) (by omega) (decide (l3 = l5)) (by simp))
  generalize decide (l3 = l5) = t4 at KI
  cases t4
  all_goals
   go_wp2_with fail
   refine (KI.out _ (Below.refl _ _)).mono ?_
   rintro e w6 ⟨rfl, hb6⟩
   have H6 := Lib.hid (H5.out.1.below hb6)
   clear hb6
   cases t2
   all_goals
    cases t3
    all_goals
     go_wp2_with fail
     go_ret
     exact ⟨RB16.mk _, H6.out⟩
end Go.Proofs.YtbelcgjbhpjnpaaGreat.Sh
