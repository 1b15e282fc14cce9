/- a pool by its contracts: Get and Put, whatever is dirty. -/
import Derived.Test.YtbelcgjbhpjnpaaGreatZd
set_option linter.all false
set_option linter.unusedVariables false
set_option linter.unusedSimpArgs false
namespace Go.Proofs.YtbelcgjbhpjnpaaGreat.Sh
open Go.RowKit Pk Dk Pg
attribute [local go_sem ↓] Go.wp_at_zero Go.wp_at_succ
set_option maxHeartbeats 1000000 in
theorem get1_any2 (b : ByteArray) (q : Nat) (w : World) (s0 : ByteArray) (B : Blk w q 9 #[.string s0]) :
  Calls Tryz.prog 122 #[.string b, .pointer (some ⟨q, 0, none⟩)] w fun e w' => e = .returned (.int .i64 0) ∧ Blk w' q 9 #[.string b] ∧ Only [q] w w' := by
 have q0 := B.cell_some (i := 0) rfl
 have q1 := B.frozen 0 (by simp)
 have B1 := Lib.hid (show Blk (w.setCell ⟨q, 0, none⟩ (.string b)) q 9 #[.string b] from B.set_ 0 (.string b))
 have O1 := Lib.hid ((Only.refl [q] w).setCell (p := ⟨q, 0, none⟩) (by simp) (.string b))
 clear B
 go_enter Tryz.func122, Tryz.ntmps122
 go_wp2_with fail
 go_ret
 exact ⟨by first | rfl | simp, B1.out, O1.out⟩
theorem back_l {q : QS} {k : Nat} {K : Nat} (h : Fb q.l K) (hk : k < q.l.length) : Fb (q.backF k).1.l K ∧ (q.backF k).1.l.length = q.l.length := by
 have hm := h _ (List.mem_of_getElem? (frD_get hk))
 unfold QS.backF
 split
 ·split
  ·exact ⟨h.set _ hm, List.length_set⟩
  ·exact ⟨h, rfl⟩
 ·exact ⟨h, rfl⟩
/-- payloads that a store tells are of a page -/
def Full (a : St) : Prop := ∀ l, (a.readF l).1.length ≤ 232
theorem str_le {l : List UInt8} (h : l.length ≤ 232) : (⟨l.toArray⟩ : ByteArray).size ≤ 1000 := by
 show l.toArray.size ≤ 1000
 simp; omega
theorem hold_l {q : QS} {K : Nat} (h : Fb q.l K) (hl : q.hand < q.l.length) (hf : Full q.a) (p : Int) : Fb (q.holdF p).1.l (K + 1) ∧ (q.holdF p).1.l.length = q.l.length := by
 unfold QS.holdF
 rcases findF_le q.l p with e | ⟨k, f, e, hk, _, _⟩
 ·rw [e, if_neg (by omega)]
  split
  ·exact ⟨h.more (by omega), rfl⟩
  ·obtain ⟨v1, v2, v3⟩ := qvictim_ok q hl h
   have va := victim_a q
   split
   ·exact ⟨v1.more (by omega), va.2⟩
   ·rcases v3 with v3 | ⟨k, v3, hk⟩
    ·omega
    ·rw [v3, show ((k : Nat) : Int).toNat = k by omega]
     obtain ⟨b1, b2⟩ := back_l (k := k) v1 (by omega)
     split
     ·exact ⟨b1.more (by omega), by rw [b2, va.2]⟩
     ·exact ⟨(b1.more (by omega)).set _ ⟨by show (0 : Int) ≤ 1; omega, by show (1 : Int) ≤ _; omega, str_le (hf p)⟩, by show (List.set _ _ _).length = _; rw [List.length_set, b2, va.2]⟩
 ·rw [e, if_pos (by omega), show ((k : Nat) : Int).toNat = k by omega, frD_at hk]
  have hm := h _ (List.mem_of_getElem? hk)
  exact ⟨(h.more (by omega)).set _ ⟨by show 0 ≤ f.held + 1; omega, by show f.held + 1 ≤ _; omega, hm.2.2⟩, List.length_set⟩
theorem heldF_get {q : QS} {p : Int} {k : Nat} {f : Fr} (h : q.heldF p = some (k, f)) : q.l[k]? = some f ∧ f.held ≠ 0 ∧ findF q.l p = k := by
 unfold QS.heldF at h
 rcases findF_le q.l p with e | ⟨j, g, e, hg, _, _⟩
 ·rw [e, if_pos (by omega)] at h; cases h
 ·rw [e, if_neg (by omega), show ((j : Nat) : Int).toNat = j by omega, hg] at h
  dsimp only at h
  split at h
  ·cases h
  ·rename_i hne
   obtain ⟨rfl, rfl⟩ : j = k ∧ g = f := by simpa using h
   exact ⟨hg, hne, e⟩
theorem let_l {q : QS} {K : Nat} (h : Fb q.l K) (p : Int) : Fb (q.letF p).1.l K ∧ (q.letF p).1.l.length = q.l.length ∧ (q.letF p).1.a = q.a ∧ (q.letF p).1.hand = q.hand := by
 unfold QS.letF
 cases hh : q.heldF p with
 | none => exact ⟨h, rfl, rfl, rfl⟩
 | some kf =>
  obtain ⟨k, f⟩ := kf
  obtain ⟨h1, h2, _⟩ := heldF_get hh
  have hm := h _ (List.mem_of_getElem? h1)
  exact ⟨h.set k ⟨by show 0 ≤ f.held - 1; omega, by show f.held - 1 ≤ _; omega, hm.2.2⟩, List.length_set, rfl, rfl⟩
theorem set_l {q : QS} {K : Nat} (h : Fb q.l K) (p : Int) (b : ByteArray) : Fb (q.setF p b).1.l K ∧ (q.setF p b).1.l.length = q.l.length ∧ (q.setF p b).1.a = q.a ∧ (q.setF p b).1.hand = q.hand := by
 unfold QS.setF
 split
 ·exact ⟨h, rfl, rfl, rfl⟩
 ·rename_i hb
  cases hh : q.heldF p with
  | none => exact ⟨h, rfl, rfl, rfl⟩
  | some kf =>
   obtain ⟨k, f⟩ := kf
   obtain ⟨h1, h2, _⟩ := heldF_get hh
   have hm := h _ (List.mem_of_getElem? h1)
   exact ⟨h.set k ⟨hm.1, hm.2.1, by show (fullB b).size ≤ _; rw [fullB_size (by omega)]; omega⟩, List.length_set, rfl, rfl⟩
set_option maxRecDepth 100000 in
set_option maxHeartbeats 4000000 in
theorem zwithg_bad {w : World} {y : Y} {n K : Nat} {q : QS} {g : Nat} (h : ZP w y n q K) (hb : Fb q.l K) (hK : K ≤ 1000000000000) (p : Int) (he : (q.holdF p).2.2 ≠ 0) :
  Calls Tryz.prog 120 #[pp y.pb, .int .i64 p, .func (Fn.func 122) #[] #[.pointer (some ⟨g, 0, none⟩)]] w fun e w' => e = .returned (.int .i64 (q.holdF p).2.2) ∧ ZP w' y n (q.holdF p).1 (K + 1) ∧ Only y.fp w w' := by
 have KH := Lib.hid (zhold_any h hb hK p)
 have hq : ((q.holdF p).2.2 != 0) = true := by rw [bne_iff_ne]; exact he
 have hq2 : ((q.holdF p).2.2 == 0) = false := by rw [beq_eq_false_iff_ne]; exact he
 generalize q.holdF p = R at *
 clear h hb
 unfold pp at *
 go_enter Tryz.func120, Tryz.ntmps120
 go_wp2_with fail
 refine KH.out.mono ?_
 rintro e w1 ⟨rfl, A1, o1⟩
 have A1 := Lib.hid A1
 have o1 := Lib.hid o1
 go_wp2_with fail
 go_ret
 exact ⟨by first | rfl | simp, A1.out, o1.out⟩
set_option maxRecDepth 100000 in
set_option maxHeartbeats 4000000 in
theorem zwithp_bad {w : World} {y : Y} {n K : Nat} {q : QS} {g3 g4 g5 : Nat} (h : ZP w y n q K) (hb : Fb q.l K) (hK : K ≤ 1000000000000) (p : Int) (he : (q.holdF p).2.2 ≠ 0) :
  Calls Tryz.prog 120 #[pp y.pb, .int .i64 p, .func (Fn.func 121) #[] #[.pointer (some ⟨g3, 0, none⟩), .pointer (some ⟨g4, 0, none⟩), .pointer (some ⟨g5, 0, none⟩)]] w fun e w' => e = .returned (.int .i64 (q.holdF p).2.2) ∧ ZP w' y n (q.holdF p).1 (K + 1) ∧ Only y.fp w w' := by
 have KH := Lib.hid (zhold_any h hb hK p)
 have hq : ((q.holdF p).2.2 != 0) = true := by rw [bne_iff_ne]; exact he
 have hq2 : ((q.holdF p).2.2 == 0) = false := by rw [beq_eq_false_iff_ne]; exact he
 generalize q.holdF p = R at *
 clear h hb
 unfold pp at *
 go_enter Tryz.func120, Tryz.ntmps120
 go_wp2_with fail
 refine KH.out.mono ?_
 rintro e w1 ⟨rfl, A1, o1⟩
 have A1 := Lib.hid A1
 have o1 := Lib.hid o1
 go_wp2_with fail
 go_ret
 exact ⟨by first | rfl | simp, A1.out, o1.out⟩
set_option maxRecDepth 100000 in
set_option maxHeartbeats 4000000 in
theorem zwithg_good {w : World} {y : Y} {n K g : Nat} {q : QS} (h : ZP w y n q K) (hb : Fb q.l K) (hK : K ≤ 999999999999) (hl : q.hand < q.l.length) (hfu : Full q.a) (p : Int) (he : (q.holdF p).2.2 = 0) (s0 : ByteArray) (B : Blk w g 9 #[.string s0]) (hg : g ∉ y.fp) :
  Calls Tryz.prog 120 #[pp y.pb, .int .i64 p, .func (Fn.func 122) #[] #[.pointer (some ⟨g, 0, none⟩)]] w fun e w' => e = .returned (.int .i64 0) ∧ ZP w' y n ((q.holdF p).1.letF p).1 (K + 1) ∧ Only (g :: y.fp) w w' ∧ Blk w' g 9 #[.string (q.holdF p).2.1] := by
 have KH := Lib.hid (zhold_any h hb (by omega) p)
 rw [he] at KH
 have hbb := (hold_l hb hl hfu p).1
 generalize q.holdF p = R at *
 have KL := Lib.hid (fun w' (A : ZP w' y n R.1 (K + 1)) => zlet_any A hbb (by omega) p)
 have HQ := Lib.hid hg
 have HB := Lib.hid B
 have HD := Lib.hid (fun (w1 w2 : World) (A : ZP w1 y n R.1 (K + 1)) (o : Only [g] w1 w2) => (show ZP w2 y n R.1 (K + 1) from by
  obtain ⟨c, A, z⟩ := A
  exact ⟨c, A.only o (fun x hx hm => hg (by rw [List.mem_singleton.1 hm] at hx; exact hx)), z⟩))
 clear h hb B hbb he hg
 unfold pp at *
 go_enter Tryz.func120, Tryz.ntmps120
 go_wp2_with fail
 refine KH.out.mono ?_
 rintro e w1 ⟨rfl, A1, o1⟩
 have B1 := HB.out.only o1 HQ.out
 have KG := Lib.hid (get1_any2 R.2.1 g w1 s0 B1)
 have A1 := Lib.hid A1
 have o1 := Lib.hid o1
 clear B1
 go_wp2_with fail
 refine KG.out.mono ?_
 rintro e w2 ⟨rfl, B2, o2⟩
 have A2 := Lib.hid (HD.out _ _ A1.out o2)
 have B2 := Lib.hid B2
 have o2 := Lib.hid ((o1.out.mono (fun x hx _ => List.mem_cons_of_mem g hx)).trans (o2.mono (fun x hx _ => by rw [List.mem_singleton.1 hx]; exact List.mem_cons_self ..)))
 go_wp2_with fail
 refine (KL.out _ A2.out).mono ?_
 rintro e w3 ⟨rfl, A3, o3⟩
 have A3 := Lib.hid A3
 have B3 := Lib.hid (B2.out.only o3 HQ.out)
 have o3 := Lib.hid (o2.out.trans (o3.mono (fun x hx _ => List.mem_cons_of_mem g hx)))
 go_wp2_with fail
 go_ret
 exact ⟨by first | rfl | simp, A3.out, o3.out, B3.out⟩
set_option maxRecDepth 100000 in
set_option maxHeartbeats 4000000 in
theorem put1_any {w : World} {y : Y} {n K g3 g4 g5 : Nat} {q : QS} (h : ZP w y n q K) (p : Int) (b u : ByteArray) (B3 : Blk w g3 75 #[pp y.pb]) (B4 : Blk w g4 3 #[.int .i64 p]) (B5 : Blk w g5 9 #[.string b]) :
  Calls Tryz.prog 121 #[.string u, .pointer (some ⟨g3, 0, none⟩), .pointer (some ⟨g4, 0, none⟩), .pointer (some ⟨g5, 0, none⟩)] w fun e w' => e = .returned (.int .i64 (q.setF p b).2) ∧ ZP w' y n (q.setF p b).1 K ∧ Only y.fp w w' := by
 have KS := Lib.hid (zset_any h p b)
 have c3 := B3.cell_some (i := 0) rfl
 have c4 := B4.cell_some (i := 0) rfl
 have c5 := B5.cell_some (i := 0) rfl
 generalize q.setF p b = R at *
 clear h B3 B4 B5
 unfold pp at *
 go_enter Tryz.func121, Tryz.ntmps121
 go_wp2_with fail
 refine KS.out.mono ?_
 rintro e w1 ⟨rfl, A1, o1⟩
 have A1 := Lib.hid A1
 have o1 := Lib.hid o1
 go_wp2_with fail
 go_ret
 exact ⟨by first | rfl | simp, A1.out, o1.out⟩
set_option maxRecDepth 100000 in
set_option maxHeartbeats 4000000 in
theorem zwithp_good {w : World} {y : Y} {n K g3 g4 g5 : Nat} {q : QS} (h : ZP w y n q K) (hb : Fb q.l K) (hK : K ≤ 999999999999) (hl : q.hand < q.l.length) (hfu : Full q.a) (p : Int) (he : (q.holdF p).2.2 = 0) (b : ByteArray) (B3 : Blk w g3 75 #[pp y.pb]) (B4 : Blk w g4 3 #[.int .i64 p]) (B5 : Blk w g5 9 #[.string b]) (h3 : g3 ∉ y.fp) (h4 : g4 ∉ y.fp) (h5 : g5 ∉ y.fp) :
  Calls Tryz.prog 120 #[pp y.pb, .int .i64 p, .func (Fn.func 121) #[] #[.pointer (some ⟨g3, 0, none⟩), .pointer (some ⟨g4, 0, none⟩), .pointer (some ⟨g5, 0, none⟩)]] w fun e w' => e = .returned (.int .i64 ((q.holdF p).1.setF p b).2) ∧ ZP w' y n (((q.holdF p).1.setF p b).1.letF p).1 (K + 1) ∧ Only y.fp w w' := by
 have KH := Lib.hid (zhold_any h hb (by omega) p)
 rw [he] at KH
 have hbb := (hold_l hb hl hfu p).1
 have hbc := (set_l hbb p b).1
 have KC := Lib.hid (fun (w1 : World) (A : ZP w1 y n (q.holdF p).1 (K + 1)) (u : ByteArray) (o : Only y.fp w w1) => put1_any A p b u (B3.only o h3) (B4.only o h4) (B5.only o h5))
 generalize q.holdF p = R at *
 generalize R.1.setF p b = R2 at *
 have KL := Lib.hid (fun w' (A : ZP w' y n R2.1 (K + 1)) => zlet_any A hbc (by omega) p)
 clear h hb B3 B4 B5 hbb hbc he h3 h4 h5
 unfold pp at *
 go_enter Tryz.func120, Tryz.ntmps120
 go_wp2_with fail
 refine KH.out.mono ?_
 rintro e w1 ⟨rfl, A1, o1⟩
 have KG := Lib.hid (KC.out w1 A1 R.2.1 o1)
 have o1 := Lib.hid o1
 clear A1
 go_wp2_with fail
 refine KG.out.mono ?_
 rintro e w2 ⟨rfl, A2, o2⟩
 have A2 := Lib.hid A2
 have o2 := Lib.hid (o1.out.trans o2)
 go_wp2_with fail
 refine (KL.out _ A2.out).mono ?_
 rintro e w3 ⟨rfl, A3, o3⟩
 have A3 := Lib.hid A3
 have o3 := Lib.hid (o2.out.trans o3)
 go_wp2_with fail
 go_ret
 exact ⟨by first | rfl | simp, A3.out, o3.out⟩
set_option maxRecDepth 100000 in
set_option maxHeartbeats 4000000 in
theorem zget_good {w : World} {y : Y} {n K : Nat} {q : QS} (h : ZP w y n q K) (hb : Fb q.l K) (hK : K ≤ 999999999999) (hfu : Full q.a) (p : Int) (he : (q.holdF p).2.2 = 0) :
  Calls Tryz.prog 46 #[pp y.pb, .int .i64 p] w fun e w' => e = .returned (.tuple #[.string (q.holdF p).2.1, .int .i64 0]) ∧ ZP w' y n ((q.holdF p).1.letF p).1 (K + 1) ∧ Only y.fp w w' := by
 have O0 := Lib.hid (belowAlloc (Below.refl w.heap.size w) (.cells #[.string ⟨#[]⟩] 9))
 have B0 := Lib.hid (Blk.new w 9 #[.string ⟨#[]⟩])
 have NQ := Lib.hid (show w.heap.size ∉ y.fp from fun hm => by
  obtain ⟨c, A, z⟩ := h
  have := A.lt _ hm
  omega)
 have KW := Lib.hid (zwithg_good (h.below O0.out) hb hK (by obtain ⟨c, A, z⟩ := h; exact A.lh) hfu p he _ B0.out NQ.out)
 generalize (q.holdF p).2.1 = r at *
 generalize ((q.holdF p).1.letF p).1 = S2 at *
 clear h hb he hfu
 unfold pp at *
 go_enter Tryz.func46, Tryz.ntmps46
 go_wp2_with fail
 refine KW.out.mono ?_
 rintro e w1 ⟨rfl, A1, o1, B1⟩
 have A1 := Lib.hid A1
 have o1 := Lib.hid ((Only.of_below (S := w.heap.size :: y.fp) O0.out).trans o1)
 have q0 := B1.cell_some (i := 0) rfl
 clear B1
 go_wp2_with fail
 go_ret2
 exact ⟨by first | rfl | simp, A1.out, o1.out.mono (fun g hg hlt => by simp at hg; rcases hg with rfl | hg; (· omega); exact hg)⟩
set_option maxRecDepth 100000 in
set_option maxHeartbeats 4000000 in
theorem zget_bad {w : World} {y : Y} {n K : Nat} {q : QS} (h : ZP w y n q K) (hb : Fb q.l K) (hK : K ≤ 999999999999) (p : Int) (he : (q.holdF p).2.2 ≠ 0) :
  Calls Tryz.prog 46 #[pp y.pb, .int .i64 p] w fun e w' => e = .returned (.tuple #[.string ⟨#[]⟩, .int .i64 (q.holdF p).2.2]) ∧ ZP w' y n (q.holdF p).1 (K + 1) ∧ Only y.fp w w' := by
 have O0 := Lib.hid (belowAlloc (Below.refl w.heap.size w) (.cells #[.string ⟨#[]⟩] 9))
 have B0 := Lib.hid (Blk.new w 9 #[.string ⟨#[]⟩])
 have NQ := Lib.hid (show w.heap.size ∉ y.fp from fun hm => by
  obtain ⟨c, A, z⟩ := h
  have := A.lt _ hm
  omega)
 have KW := Lib.hid (zwithg_bad (g := w.heap.size) (h.below O0.out) hb (by omega) p he)
 generalize (q.holdF p) = R at *
 clear h hb he
 unfold pp at *
 go_enter Tryz.func46, Tryz.ntmps46
 go_wp2_with fail
 refine KW.out.mono ?_
 rintro e w1 ⟨rfl, A1, o1⟩
 have B1 := B0.out.only o1 NQ.out
 have A1 := Lib.hid A1
 have o1 := Lib.hid ((Only.of_below (S := y.fp) O0.out).trans o1)
 have q0 := B1.cell_some (i := 0) rfl
 clear B1
 go_wp2_with fail
 go_ret2
 exact ⟨by first | rfl | simp, A1.out, o1.out⟩
set_option maxRecDepth 100000 in
set_option maxHeartbeats 4000000 in
theorem zput_good {w : World} {y : Y} {n K : Nat} {q : QS} (h : ZP w y n q K) (hb : Fb q.l K) (hK : K ≤ 999999999999) (hfu : Full q.a) (p : Int) (b : ByteArray) (hs : b.size ≤ 232) (he : (q.holdF p).2.2 = 0) :
  Calls Tryz.prog 45 #[pp y.pb, .int .i64 p, .string b] w fun e w' => e = .returned (.int .i64 ((q.holdF p).1.setF p b).2) ∧ ZP w' y n (((q.holdF p).1.setF p b).1.letF p).1 (K + 1) ∧ Only y.fp w w' := by
 obtain ⟨g3, hg3⟩ : ∃ g, w.heap.size = g := ⟨_, rfl⟩
 have b3 := Blk.new w 75 #[pp y.pb]
 have o3 := belowAlloc (Below.refl w.heap.size w) (.cells #[pp y.pb] 75)
 have e3 : (w.alloc (.cells #[pp y.pb] 75)).heap.size = g3 + 1 := by rw [← hg3]; simp
 have b4 := Blk.new (w.alloc (.cells #[pp y.pb] 75)) 3 #[.int .i64 p]
 have o4 := belowAlloc o3 (.cells #[.int .i64 p] 3)
 have k4 := belowAlloc (Below.refl (w.alloc (.cells #[pp y.pb] 75)).heap.size _) (.cells #[.int .i64 p] 3)
 have e4 : ((w.alloc (.cells #[pp y.pb] 75)).alloc (.cells #[.int .i64 p] 3)).heap.size = g3 + 2 := by rw [← hg3]; simp
 have b5 := Blk.new ((w.alloc (.cells #[pp y.pb] 75)).alloc (.cells #[.int .i64 p] 3)) 9 #[.string b]
 have o5 := belowAlloc o4 (.cells #[.string b] 9)
 have k5 := belowAlloc (Below.refl ((w.alloc (.cells #[pp y.pb] 75)).alloc (.cells #[.int .i64 p] 3)).heap.size _) (.cells #[.string b] 9)
 have B3 := Blk.below (Blk.below b3 k4 b3.lt) k5 (Blk.below b3 k4 b3.lt).lt
 have B4 := Blk.below b4 k5 b4.lt
 rw [e3] at B4
 rw [e4] at b5
 rw [hg3] at B3
 have OZ := Lib.hid o5
 have NQ := Lib.hid (show ∀ g, w.heap.size ≤ g → g ∉ y.fp from fun g hg hm => by
  obtain ⟨c, A, z⟩ := h
  have := A.lt _ hm
  omega)
 have KW := Lib.hid (zwithp_good (h.below OZ.out) hb hK (by obtain ⟨c, A, z⟩ := h; exact A.lh) hfu p he b B3 B4 b5 (NQ.out _ (by omega)) (NQ.out _ (by omega)) (NQ.out _ (by omega)))
 have cl := B3.cell_some (i := 0) rfl
 have c4 := B4.cell_some (i := 0) rfl
 have c5 := b5.cell_some (i := 0) rfl
 have hsI : ¬ (232 : Int) < (b.size : Int) := by omega
 generalize ((q.holdF p).1.setF p b).2 = RR at *
 generalize (((q.holdF p).1.setF p b).1.letF p).1 = SS at *
 clear h hb he hfu hs b3 b4 b5 B3 B4 o3 o4 o5 e3 e4 k4 k5
 unfold pp at *
 go_enter Tryz.func45, Tryz.ntmps45
 go_wp2_with fail
 refine KW.out.mono ?_
 rintro e w1 ⟨rfl, A1, o1⟩
 have A1 := Lib.hid A1
 have o1 := Lib.hid ((Only.of_below (S := y.fp) OZ.out).trans o1)
 go_wp2_with fail
 go_ret
 exact ⟨by first | rfl | simp, A1.out, o1.out⟩
set_option maxRecDepth 100000 in
set_option maxHeartbeats 4000000 in
theorem zput_bad {w : World} {y : Y} {n K : Nat} {q : QS} (h : ZP w y n q K) (hb : Fb q.l K) (hK : K ≤ 999999999999) (hfu : Full q.a) (p : Int) (b : ByteArray) (hs : b.size ≤ 232) (he : (q.holdF p).2.2 ≠ 0) :
  Calls Tryz.prog 45 #[pp y.pb, .int .i64 p, .string b] w fun e w' => e = .returned (.int .i64 (q.holdF p).2.2) ∧ ZP w' y n (q.holdF p).1 (K + 1) ∧ Only y.fp w w' := by
 obtain ⟨g3, hg3⟩ : ∃ g, w.heap.size = g := ⟨_, rfl⟩
 have b3 := Blk.new w 75 #[pp y.pb]
 have o3 := belowAlloc (Below.refl w.heap.size w) (.cells #[pp y.pb] 75)
 have e3 : (w.alloc (.cells #[pp y.pb] 75)).heap.size = g3 + 1 := by rw [← hg3]; simp
 have b4 := Blk.new (w.alloc (.cells #[pp y.pb] 75)) 3 #[.int .i64 p]
 have o4 := belowAlloc o3 (.cells #[.int .i64 p] 3)
 have k4 := belowAlloc (Below.refl (w.alloc (.cells #[pp y.pb] 75)).heap.size _) (.cells #[.int .i64 p] 3)
 have e4 : ((w.alloc (.cells #[pp y.pb] 75)).alloc (.cells #[.int .i64 p] 3)).heap.size = g3 + 2 := by rw [← hg3]; simp
 have b5 := Blk.new ((w.alloc (.cells #[pp y.pb] 75)).alloc (.cells #[.int .i64 p] 3)) 9 #[.string b]
 have o5 := belowAlloc o4 (.cells #[.string b] 9)
 have k5 := belowAlloc (Below.refl ((w.alloc (.cells #[pp y.pb] 75)).alloc (.cells #[.int .i64 p] 3)).heap.size _) (.cells #[.string b] 9)
 have B3 := Blk.below (Blk.below b3 k4 b3.lt) k5 (Blk.below b3 k4 b3.lt).lt
 have B4 := Blk.below b4 k5 b4.lt
 rw [e3] at B4
 rw [e4] at b5
 rw [hg3] at B3
 have OZ := Lib.hid o5
 have NQ := Lib.hid (show ∀ g, w.heap.size ≤ g → g ∉ y.fp from fun g hg hm => by
  obtain ⟨c, A, z⟩ := h
  have := A.lt _ hm
  omega)
 have KW := Lib.hid (zwithp_bad (g3 := g3) (g4 := g3 + 1) (g5 := g3 + 2) (h.below OZ.out) hb (by omega) p he)
 have cl := B3.cell_some (i := 0) rfl
 have c4 := B4.cell_some (i := 0) rfl
 have c5 := b5.cell_some (i := 0) rfl
 have hsI : ¬ (232 : Int) < (b.size : Int) := by omega
 generalize (q.holdF p).2.2 = RR at *
 generalize (q.holdF p).1 = SS at *
 clear h hb he hfu hs b3 b4 b5 B3 B4 o3 o4 o5 e3 e4 k4 k5
 unfold pp at *
 go_enter Tryz.func45, Tryz.ntmps45
 go_wp2_with fail
 refine KW.out.mono ?_
 rintro e w1 ⟨rfl, A1, o1⟩
 have A1 := Lib.hid A1
 have o1 := Lib.hid ((Only.of_below (S := y.fp) OZ.out).trans o1)
 go_wp2_with fail
 go_ret
 exact ⟨by first | rfl | simp, A1.out, o1.out⟩
set_option maxRecDepth 100000 in
set_option maxHeartbeats 4000000 in
theorem zput_big {w : World} {y : Y} (p : Int) (b : ByteArray) (hs : 232 < b.size) :
  Calls Tryz.prog 45 #[pp y.pb, .int .i64 p, .string b] w fun e w' => e = .returned (.int .i64 4) ∧ Below w.heap.size w w' := by
 have OZ := Lib.hid (belowAlloc (belowAlloc (belowAlloc (Below.refl w.heap.size w) (.cells #[pp y.pb] 75)) (.cells #[.int .i64 p] 3)) (.cells #[.string b] 9))
 have hsI : (232 : Int) < (b.size : Int) := by omega
 clear hs
 unfold pp at *
 go_enter Tryz.func45, Tryz.ntmps45
 go_wp2_with fail
 go_ret
 exact ⟨by first | rfl | simp, OZ.out⟩
end Go.Proofs.YtbelcgjbhpjnpaaGreat.Sh
