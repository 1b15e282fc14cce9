/- chain by its contracts: read. -/
import Derived.Test.YtbelcgjbhpjnpaaSc
namespace Go.Proofs.Ytbelcgjbhpjnpaa.Sh
open Go.RowKit Pk Dk Pg
attribute [local go_sem ↓] Go.wp_at_zero Go.wp_at_succ
def at2 (l : List UInt8) (k : Nat) : Nat := (l.getD k 0).toNat * 256 + (l.getD (k + 1) 0).toNat
theorem or8 (a b : Nat) (ha : a < 256) (hb : b < 256) : bits .or .i64 ((a : Int) * 256) (b : Int) = ((a * 256 + b : Nat) : Int) := by
  rw [bits_join .i64 32 (by decide) (fun n h0 h1 => IntWalk.i64_in n (by omega)) 8 _ _ (by omega) (by omega) (by omega) (by omega) (by omega) (by omega)]
  omega
theorem getD_size (s : ByteArray) (k : Nat) (h : k < s.size) : s.data.toList.getD k 0 = s[k] := by
  have h2 : k < s.data.toList.length := by simpa using h
  simp only [List.getD, List.getElem?_eq_getElem h2, Option.getD_some, Array.getElem_toList]
  rfl
theorem only_new1 {b : Nat} {F : List Nat} {w w' : World} (o : Only (b :: F) w w') (hb : w.heap.size ≤ b) : Only F w w' := o.mono (fun x hx hlt => (List.mem_cons.1 hx).elim (fun e => by omega) id)
theorem only_sub1 {b : Nat} {F : List Nat} {w w' : World} (o : Only F w w') : Only (b :: F) w w' := o.mono (fun _ hx _ => List.mem_cons_of_mem _ hx)
theorem only_one1 {b : Nat} {F : List Nat} {w w' : World} (o : Only [b] w w') : Only (b :: F) w w' := o.mono (fun _ hx _ => by rw [List.mem_singleton.1 hx]; exact List.mem_cons_self ..)
theorem AtQ.far {w w' : World} {pb sb b : Nat} {F : List Nat} {a : St} {k : Int} (h : AtQ w pb sb F a k) (o : Only [b] w w') (hb : b ∉ F) : AtQ w' pb sb F a k := h.only o (fun g hg hm => hb (by rw [← List.mem_singleton.1 hm]; exact hg))
def St.readC (a : St) (l : Int) : Int × List UInt8 × Int :=
  if (a.readF l).2 ≠ 0 then (0, [], (a.readF l).2) else if 228 < at2 (a.readF l).1 2 then (0, [], 14) else ((at2 (a.readF l).1 0 : Int) - 1, ((a.readF l).1.drop 4).take (at2 (a.readF l).1 2), 0)
def linkV (n : Int) (s : ByteArray) : Value := .agg #[.int .i64 n, .string s]
theorem ret_link {fn : Func} {p u : Tmp} {w : World} {g : Nat} {c : Int} {a : ByteArray} {tmps : Array Value} (h : fn.results = #[.cell p 95, .tmp u]) (hp : tmps.getD p undef = .pointer (some ⟨g, 0, none⟩)) (B : Blk w g 95 #[.int .i64 c, .string a]) :
    (results fn tmps).run Try.prog w = .ok (.tuple #[linkV c a, tmps.getD u undef]) w := by
  have c0 := B.cell_some (i := 0) rfl
  have c1 := B.cell_some (i := 1) rfl
  rw [results_cell_tmp h, hp]
  clear h hp B
  unfold linkV
  go_simp
theorem storeL {w : World} {g : Nat} {c c' : Int} {a a' : ByteArray} (B : Blk w g 95 #[.int .i64 c, .string a]) :
    Blk ((w.setCell ⟨g, 0, none⟩ (.int .i64 c')).setCell ⟨g, 1, none⟩ (.string a')) g 95 #[.int .i64 c', .string a'] ∧ Only [g] w ((w.setCell ⟨g, 0, none⟩ (.int .i64 c')).setCell ⟨g, 1, none⟩ (.string a')) ∧
      w.cell? ⟨g, 0, none⟩ = some (.int .i64 c) ∧ w.cell? ⟨g, 1, none⟩ = some (.string a) ∧ w.frozen? ⟨g, 0, none⟩ = false ∧ w.frozen? ⟨g, 1, none⟩ = false :=
  ⟨(B.set_ 0 _).set_ 1 _, ((Only.refl _ _).setCell (by simp) _).setCell (by simp) _, B.cell_some rfl, B.cell_some rfl, B.frozen 0 (by simp), B.frozen 1 (by simp)⟩
set_option maxRecDepth 100000 in
set_option maxHeartbeats 2000000 in
theorem cread_bad {w : World} {pb sb : Nat} {F : List Nat} {a : St} {k : Int} (h : AtQ w pb sb F a k) (p : Int) (he : (a.readF p).2 ≠ 0) :
    Calls Try.prog 38 #[pp pb, .int .i64 p] w fun e w' => e = .returned (.tuple #[linkV 0 ⟨#[]⟩, .int .i64 (a.readF p).2]) ∧ AtQ w' pb sb F a k ∧ Only F w w' := by
  have O0 := Lib.hid (belowAlloc (Below.refl w.heap.size w) (.cells #[.int .i64 0, .string ⟨#[]⟩] 95))
  have B0 := Lib.hid (Blk.new w 95 #[.int .i64 0, .string ⟨#[]⟩])
  have NQ := Lib.hid (show w.heap.size ∉ F from fun hm => by have := h.lt _ hm; omega)
  have KG := Lib.hid (qget_any (h.below O0.out) p)
  have hq : ((a.readF p).2 != 0) = true := by rw [bne_iff_ne]; exact he
  have hq2 : ((a.readF p).2 == 0) = false := by rw [beq_eq_false_iff_ne]; exact he
  generalize a.readF p = R at *
  obtain ⟨R1, R2⟩ := R
  dsimp only at *
  clear h he
  unfold pp at *
  go_enter Try.func38, Try.ntmps38
  go_wp2_with fail
  refine KG.out.mono ?_
  rintro e w1 ⟨rfl, A1, o1⟩
  have A1 := Lib.hid A1
  have o1 := Lib.hid o1
  obtain ⟨B2, o2, c0, c1, z0, z1⟩ := storeL (c' := 0) (a' := ⟨#[]⟩) (B0.out.only o1.out NQ.out)
  have B2 := Lib.hid B2
  have o2 := Lib.hid o2
  go_wp2_with fail
  exact bodyPost_ret (ret_link rfl rfl B2.out) rfl ⟨rfl, (A1.out).far o2.out NQ.out, only_new1 (((Only.of_below (S := w.heap.size :: F) O0.out).trans (only_sub1 o1.out)).trans (only_one1 o2.out)) (Nat.le_refl _)⟩
set_option maxRecDepth 100000 in
set_option maxHeartbeats 2000000 in
theorem cread_long {w : World} {pb sb : Nat} {F : List Nat} {a : St} {k : Int} (h : AtQ w pb sb F a k) (p : Int) (he : (a.readF p).2 = 0) (H2 : 228 < at2 (a.readF p).1 2) :
    Calls Try.prog 38 #[pp pb, .int .i64 p] w fun e w' => e = .returned (.tuple #[linkV 0 ⟨#[]⟩, .int .i64 14]) ∧ AtQ w' pb sb F a k ∧ Only F w w' := by
  have O0 := Lib.hid (belowAlloc (Below.refl w.heap.size w) (.cells #[.int .i64 0, .string ⟨#[]⟩] 95))
  have B0 := Lib.hid (Blk.new w 95 #[.int .i64 0, .string ⟨#[]⟩])
  have NQ := Lib.hid (show w.heap.size ∉ F from fun hm => by have := h.lt _ hm; omega)
  have KG := Lib.hid (qget_any (h.below O0.out) p)
  have hl := h.len he
  have hsz : (⟨(a.readF p).1.toArray⟩ : ByteArray).size = 232 := by show (a.readF p).1.toArray.size = 232; simpa using hl
  have hdl : (a.readF p).1 = (⟨(a.readF p).1.toArray⟩ : ByteArray).data.toList := by simp
  rw [he] at KG
  rw [hdl] at H2
  generalize (⟨(a.readF p).1.toArray⟩ : ByteArray) = s at *
  generalize (a.readF p).1 = R1 at *
  subst hdl
  have b0 := s[0].toNat_lt
  have b1 := s[1].toNat_lt
  have b2 := s[2].toNat_lt
  have b3 := s[3].toNat_lt
  have V0 := Lib.hid (show bits .or .i64 ((s[0].toNat : Int) * 256) (s[1].toNat : Int) = ((at2 s.data.toList 0 : Nat) : Int) from by
    rw [or8 _ _ (by omega) (by omega)]; unfold at2; rw [getD_size _ _ (by omega), getD_size _ _ (by omega)])
  have V2 := Lib.hid (show bits .or .i64 ((s[2].toNat : Int) * 256) (s[3].toNat : Int) = ((at2 s.data.toList 2 : Nat) : Int) from by
    rw [or8 _ _ (by omega) (by omega)]; unfold at2; rw [getD_size _ _ (by omega), getD_size _ _ (by omega)])
  have m0 : at2 s.data.toList 0 ≤ 65535 := by unfold at2; rw [getD_size _ _ (by omega), getD_size _ _ (by omega)]; simp only [Nat.zero_add]; omega
  have u0 : IntKind.i64.wrap (s[0].toNat : Int) = (s[0].toNat : Int) := IntWalk.i64_in _ (by omega)
  have u1 : IntKind.i64.wrap (s[1].toNat : Int) = (s[1].toNat : Int) := IntWalk.i64_in _ (by omega)
  have u2 : IntKind.i64.wrap (s[2].toNat : Int) = (s[2].toNat : Int) := IntWalk.i64_in _ (by omega)
  have u3 : IntKind.i64.wrap (s[3].toNat : Int) = (s[3].toNat : Int) := IntWalk.i64_in _ (by omega)
  have u4 : IntKind.i64.wrap ((s[0].toNat : Int) * 256) = (s[0].toNat : Int) * 256 := IntWalk.i64_in _ (by omega)
  have u5 : IntKind.i64.wrap ((s[2].toNat : Int) * 256) = (s[2].toNat : Int) * 256 := IntWalk.i64_in _ (by omega)
  generalize at2 s.data.toList 2 = m2 at *
  generalize at2 s.data.toList 0 = m1 at *
  clear h he
  unfold pp at *
  go_enter Try.func38, Try.ntmps38
  go_wp2_with fail
  refine KG.out.mono ?_
  rintro e w1 ⟨rfl, A1, o1⟩
  have A1 := Lib.hid A1
  have o1 := Lib.hid o1
  go_wp2_with fail
  go_quiet (fail)
  rw [V0.out, V2.out]
  obtain ⟨B2, o2, c0, c1, z0, z1⟩ := storeL (c' := 0) (a' := ⟨#[]⟩) ((B0.out.only o1.out NQ.out).drewN nq)
  have B2 := Lib.hid B2
  have o2 := Lib.hid (((Only.refl [w.heap.size] w1).drewN nq).trans o2)
  go_wp2_with fail
  exact bodyPost_ret (ret_link rfl rfl B2.out) rfl ⟨rfl, (A1.out).far o2.out NQ.out, only_new1 (((Only.of_below (S := w.heap.size :: F) O0.out).trans (only_sub1 o1.out)).trans (only_one1 o2.out)) (Nat.le_refl _)⟩
set_option maxRecDepth 100000 in
set_option maxHeartbeats 2000000 in
theorem cread_ok {w : World} {pb sb : Nat} {F : List Nat} {a : St} {k : Int} (h : AtQ w pb sb F a k) (p : Int) (he : (a.readF p).2 = 0) (H2 : at2 (a.readF p).1 2 ≤ 228) :
    Calls Try.prog 38 #[pp pb, .int .i64 p] w fun e w' => e = .returned (.tuple #[linkV ((at2 (a.readF p).1 0 : Int) - 1) ⟨(((a.readF p).1.drop 4).take (at2 (a.readF p).1 2)).toArray⟩, .int .i64 0]) ∧ AtQ w' pb sb F a k ∧ Only F w w' := by
  have O0 := Lib.hid (belowAlloc (Below.refl w.heap.size w) (.cells #[.int .i64 0, .string ⟨#[]⟩] 95))
  have B0 := Lib.hid (Blk.new w 95 #[.int .i64 0, .string ⟨#[]⟩])
  have NQ := Lib.hid (show w.heap.size ∉ F from fun hm => by have := h.lt _ hm; omega)
  have KG := Lib.hid (qget_any (h.below O0.out) p)
  have hl := h.len he
  have hsz : (⟨(a.readF p).1.toArray⟩ : ByteArray).size = 232 := by show (a.readF p).1.toArray.size = 232; simpa using hl
  have hdl : (a.readF p).1 = (⟨(a.readF p).1.toArray⟩ : ByteArray).data.toList := by simp
  rw [he] at KG
  rw [hdl] at H2
  generalize (⟨(a.readF p).1.toArray⟩ : ByteArray) = s at *
  generalize (a.readF p).1 = R1 at *
  subst hdl
  have b0 := s[0].toNat_lt
  have b1 := s[1].toNat_lt
  have b2 := s[2].toNat_lt
  have b3 := s[3].toNat_lt
  have V0 := Lib.hid (show bits .or .i64 ((s[0].toNat : Int) * 256) (s[1].toNat : Int) = ((at2 s.data.toList 0 : Nat) : Int) from by
    rw [or8 _ _ (by omega) (by omega)]; unfold at2; rw [getD_size _ _ (by omega), getD_size _ _ (by omega)])
  have V2 := Lib.hid (show bits .or .i64 ((s[2].toNat : Int) * 256) (s[3].toNat : Int) = ((at2 s.data.toList 2 : Nat) : Int) from by
    rw [or8 _ _ (by omega) (by omega)]; unfold at2; rw [getD_size _ _ (by omega), getD_size _ _ (by omega)])
  have m0 : at2 s.data.toList 0 ≤ 65535 := by unfold at2; rw [getD_size _ _ (by omega), getD_size _ _ (by omega)]; simp only [Nat.zero_add]; omega
  have u0 : IntKind.i64.wrap (s[0].toNat : Int) = (s[0].toNat : Int) := IntWalk.i64_in _ (by omega)
  have u1 : IntKind.i64.wrap (s[1].toNat : Int) = (s[1].toNat : Int) := IntWalk.i64_in _ (by omega)
  have u2 : IntKind.i64.wrap (s[2].toNat : Int) = (s[2].toNat : Int) := IntWalk.i64_in _ (by omega)
  have u3 : IntKind.i64.wrap (s[3].toNat : Int) = (s[3].toNat : Int) := IntWalk.i64_in _ (by omega)
  have u4 : IntKind.i64.wrap ((s[0].toNat : Int) * 256) = (s[0].toNat : Int) * 256 := IntWalk.i64_in _ (by omega)
  have u5 : IntKind.i64.wrap ((s[2].toNat : Int) * 256) = (s[2].toNat : Int) * 256 := IntWalk.i64_in _ (by omega)
  have HX := Lib.hid (show s.extract 4 (4 + at2 s.data.toList 2) = ⟨((s.data.toList.drop 4).take (at2 s.data.toList 2)).toArray⟩ from by
    apply ByteArray.ext
    apply Array.toList_inj.1
    show (s.extract 4 (4 + at2 s.data.toList 2)).data.toList = (s.data.toList.drop 4).take (at2 s.data.toList 2)
    rw [exl', show 4 + at2 s.data.toList 2 - 4 = at2 s.data.toList 2 by omega])
  generalize (⟨((s.data.toList.drop 4).take (at2 s.data.toList 2)).toArray⟩ : ByteArray) = P at *
  generalize at2 s.data.toList 2 = m2 at *
  generalize at2 s.data.toList 0 = m1 at *
  have u6 : IntKind.i64.wrap ((m1 : Int) - 1) = (m1 : Int) - 1 := IntWalk.i64_in _ (by omega)
  have u7 : IntKind.i64.wrap (4 + (m2 : Int)) = 4 + (m2 : Int) := IntWalk.i64_in _ (by omega)
  have u8 : (4 + (m2 : Int)).toNat = 4 + m2 := by omega
  clear h he
  unfold pp at *
  go_enter Try.func38, Try.ntmps38
  go_wp2_with fail
  refine KG.out.mono ?_
  rintro e w1 ⟨rfl, A1, o1⟩
  have A1 := Lib.hid A1
  have o1 := Lib.hid o1
  go_wp2_with fail
  go_quiet (fail)
  rw [V0.out, V2.out]
  obtain ⟨B2, o2, c0, c1, z0, z1⟩ := storeL (c' := (m1 : Int) - 1) (a' := s.extract 4 (4 + m2)) ((B0.out.only o1.out NQ.out).drewN nq)
  have B2 := Lib.hid B2
  have o2 := Lib.hid (((Only.refl [w.heap.size] w1).drewN nq).trans o2)
  go_wp2_with fail
  exact bodyPost_ret (ret_link rfl rfl B2.out) rfl ⟨by rw [HX.out]; rfl, (A1.out).far o2.out NQ.out, only_new1 (((Only.of_below (S := w.heap.size :: F) O0.out).trans (only_sub1 o1.out)).trans (only_one1 o2.out)) (Nat.le_refl _)⟩
theorem cread_any {w : World} {pb sb : Nat} {F : List Nat} {a : St} {k : Int} (h : AtQ w pb sb F a k) (p : Int) :
    Calls Try.prog 38 #[pp pb, .int .i64 p] w fun e w' => e = .returned (.tuple #[linkV (a.readC p).1 ⟨(a.readC p).2.1.toArray⟩, .int .i64 (a.readC p).2.2]) ∧ AtQ w' pb sb F a k ∧ Only F w w' := by
  unfold St.readC
  by_cases h0 : (a.readF p).2 = 0
  · rw [if_neg (by simpa using h0)]
    by_cases h1 : 228 < at2 (a.readF p).1 2
    · rw [if_pos h1]
      exact cread_long h p h0 h1
    · rw [if_neg h1]
      exact cread_ok h p h0 (by omega)
  · rw [if_pos h0]
    exact cread_bad h p h0
end Go.Proofs.Ytbelcgjbhpjnpaa.Sh
