/- chain by its contracts: Need, two, a piece. -/
import Derived.Test.YtbelcgjbhpjnpaaGreatQa
set_option linter.all false
set_option linter.unusedVariables false
set_option linter.unusedSimpArgs false
set_option maxRecDepth 100000
namespace Go.Proofs.YtbelcgjbhpjnpaaGreat.Sh
open Go.RowKit Pk Dk Pg
attribute [local go_sem ↓] Go.wp_at_zero Go.wp_at_succ
def cneedF (n : Int) : Int := max ((max n 0 + 227) / 228) 1
def twoL (n : Nat) : List UInt8 := [UInt8.ofNat (n / 256), UInt8.ofNat n]
def pieceL (v : List UInt8) (i : Nat) : List UInt8 := (v.drop (228 * i)).take 228
set_option maxRecDepth 100000 in
set_option maxHeartbeats 1000000 in
theorem cneed_any (n : Int) (h : n ≤ 1000000) (w : World) :
  Calls Tryz.prog 132 #[.int .i64 n] w fun e w' => e = .returned (.int .i64 (cneedF n)) ∧ w = w' := by
 unfold cneedF
 obtain ⟨m, hm⟩ := Int.eq_ofNat_of_zero_le (show 0 ≤ max n 0 by omega)
 rw [hm]
 have hm2 : m ≤ 1000000 := by omega
 have e1 : IntKind.i64.wrap ((m : Int) + 228) = (m : Int) + 228 := IntWalk.i64_in _ (by omega)
 have e2 : IntKind.i64.wrap ((m : Int) + 228 - 1) = (m : Int) + 227 := by rw [show (m : Int) + 228 - 1 = (m : Int) + 227 by omega]; exact IntWalk.i64_in _ (by omega)
 have e3 : IntKind.i64.wrap (((m : Int) + 227).tdiv 228) = ((m : Int) + 227) / 228 := by rw [Int.tdiv_eq_ediv_of_nonneg (by omega)]; exact IntWalk.i64_in _ (by omega)
 have e4 : IntKind.i64.wrap ((m : Int) + 227) = (m : Int) + 227 := IntWalk.i64_in _ (by omega)
 go_enter Tryz.func132, Tryz.ntmps132
 go_wp2_with fail
 all_goals
  go_ret
  refine ⟨?_, rfl⟩
  first | (simp; done) | (simp; omega)
set_option maxRecDepth 100000 in
set_option maxHeartbeats 1000000 in
theorem two_any (n : Nat) (h : n ≤ 60000) (w : World) :
  Calls Tryz.prog 137 #[.int .i64 (n : Nat)] w fun e w' => e = .returned (.string ⟨(twoL n).toArray⟩) ∧ Below w.heap.size w w' := by
 have O0 := Lib.hid (belowAlloc (Below.refl w.heap.size w) (.cells #[.int .u8 ((n : Int) / 256), .int .u8 ((n : Int) % 256)] 5))
 have B0 := Blk.new w 5 #[.int .u8 ((n : Int) / 256), .int .u8 ((n : Int) % 256)]
 have e1 : IntKind.u8.wrap ((n : Int) / 256) = (n : Int) / 256 := IntWalk.u8_in _ (by omega)
 have hb : bvs (twoL n) = [.int .u8 ((n : Int) / 256), .int .u8 ((n : Int) % 256)] := by
  unfold twoL bvs bv
  simp only [List.map_cons, List.map_nil, UInt8.toNat_ofNat']
  rw [show ((n / 256 % 2 ^ 8 : Nat) : Int) = (n : Int) / 256 by omega, show ((n % 2 ^ 8 : Nat) : Int) = (n : Int) % 256 by omega]
 have HR := Lib.hid (run_string_of (P := Tryz.prog) _ 141 9 5 Tryz.underlying141 Tryz.underlying5 Tryz.underlying9 ⟨w.heap.size, 0, none⟩ 2 2 (twoL n) rfl (cells_at (l := bvs (twoL n)) (by rw [hb]; exact B0) 0 _ (by simp)))
 clear B0 hb
 go_enter Tryz.func137, Tryz.ntmps137
 go_wp2_with fail
 rw [HR.out]
 go_wp2_with fail
 go_ret
 exact ⟨by first | rfl | simp, O0.out⟩
set_option maxRecDepth 100000 in
set_option maxHeartbeats 1000000 in
theorem piece_any {w : World} {q : Nat} (v : ByteArray) (hv : v.size ≤ 1024) (hq : w.cell? ⟨q, 0, none⟩ = some (.string v)) (i : Nat) (hi : 228 * i ≤ v.size) :
  Calls Tryz.prog 136 #[.int .i64 (i : Nat), .pointer (some ⟨q, 0, none⟩)] w fun e w' => e = .returned (.string ⟨(pieceL v.data.toList i).toArray⟩) ∧ w = w' := by
 have e1 : IntKind.i64.wrap ((i : Int) * 228) = ((228 * i : Nat) : Int) := by rw [show (i : Int) * 228 = ((228 * i : Nat) : Int) by omega]; exact IntWalk.i64_in _ (by omega)
 have e2 : IntKind.i64.wrap ((i : Int) + 1) = (i : Int) + 1 := IntWalk.i64_in _ (by omega)
 have e3 : IntKind.i64.wrap (((i : Int) + 1) * 228) = ((228 * i + 228 : Nat) : Int) := by rw [show ((i : Int) + 1) * 228 = ((228 * i + 228 : Nat) : Int) by omega]; exact IntWalk.i64_in _ (by omega)
 have HP := Lib.hid (show ∀ b : Nat, (228 * i + 228 ≤ v.size → b = 228 * i + 228) → (v.size < 228 * i + 228 → b = v.size) → v.extract (228 * i) b = ⟨(pieceL v.data.toList i).toArray⟩ from fun b h1 h2 => by
  apply ByteArray.ext
  apply Array.toList_inj.1
  show (v.extract (228 * i) b).data.toList = pieceL v.data.toList i
  rw [exl']
  unfold pieceL
  rcases Nat.lt_or_ge v.size (228 * i + 228) with h | h
  ·rw [h2 h, List.take_of_length_le (by simp), List.take_of_length_le (by simp; omega)]
  ·rw [h1 h, show 228 * i + 228 - 228 * i = 228 by omega])
 go_enter Tryz.func136, Tryz.ntmps136
 go_wp2_with fail
 ·go_ret
  exact ⟨by rw [HP.out _ (by omega) (by omega)]; rfl, rfl⟩
 ·go_ret
  exact ⟨by rw [HP.out _ (by omega) (by omega)]; rfl, rfl⟩
end Go.Proofs.YtbelcgjbhpjnpaaGreat.Sh

/- chain by its contracts: read. -/
namespace Go.Proofs.YtbelcgjbhpjnpaaGreat.Sh
open Go.RowKit Pk Dk Pg
attribute [local go_sem ↓] Go.wp_at_zero Go.wp_at_succ
def at2 (l : List UInt8) (k : Nat) : Nat := (l.getD k 0).toNat * 256 + (l.getD (k + 1) 0).toNat
theorem or8 (a b : Nat) (ha : a < 256) (hb : b < 256) : bits .or .i64 ((a : Int) * 256) (b : Int) = ((a * 256 + b : Nat) : Int) := by
 rw [bits_join .i64 32 (by decide) (fun n h0 h1 => IntWalk.i64_in n (by omega)) 8 _ _ (by omega) (by omega) (by omega) (by omega) (by omega) (by omega)]
 omega
theorem getD_size (s : ByteArray) (k : Nat) (h : k < s.size) : s.data.toList.getD k 0 = s[k] := by
 have h2 : k < s.data.toList.length := by simpa using h
 simp only [List.getD, List.getElem?_eq_getElem h2, Option.getD_some, Array.getElem_toList]
 rfl
theorem only_new1 {b : Nat} {F : List Nat} {w w' : World} (o : Only (b :: F) w w') (hb : w.heap.size ≤ b) : Only F w w' := o.mono (fun x hx hlt => (List.mem_cons.1 hx).elim (fun e => by omega) id)
theorem only_sub1 {b : Nat} {F : List Nat} {w w' : World} (o : Only F w w') : Only (b :: F) w w' := o.mono (fun _ hx _ => List.mem_cons_of_mem _ hx)
theorem only_one1 {b : Nat} {F : List Nat} {w w' : World} (o : Only [b] w w') : Only (b :: F) w w' := o.mono (fun _ hx _ => by rw [List.mem_singleton.1 hx]; exact List.mem_cons_self ..)
theorem AtQ.far {w w' : World} {pb sb b : Nat} {F : List Nat} {a : St} {k : Int} (h : AtQ w pb sb F a k) (o : Only [b] w w') (hb : b ∉ F) : AtQ w' pb sb F a k := h.only o (fun g hg hm => hb (by rw [← List.mem_singleton.1 hm]; exact hg))
def St.readC (a : St) (l : Int) : Int × List UInt8 × Int :=
 if (a.readF l).2 ≠ 0 then (0, [], (a.readF l).2) else if 228 < at2 (a.readF l).1 2 then (0, [], 14) else ((at2 (a.readF l).1 0 : Int) - 1, ((a.readF l).1.drop 4).take (at2 (a.readF l).1 2), 0)
def linkV (n : Int) (s : ByteArray) : Value := .agg #[.int .i64 n, .string s]
theorem ret_link {fn : Func} {p u : Tmp} {w : World} {g : Nat} {c : Int} {a : ByteArray} {tmps : Array Value} (h : fn.results = #[.cell p 196, .tmp u]) (hp : tmps.getD p undef = .pointer (some ⟨g, 0, none⟩)) (B : Blk w g 196 #[.int .i64 c, .string a]) :
  (results fn tmps).run Tryz.prog w = .ok (.tuple #[linkV c a, tmps.getD u undef]) w := by
 have c0 := B.cell_some (i := 0) rfl
 have c1 := B.cell_some (i := 1) rfl
 rw [results_cell_tmp h, hp]
 clear h hp B
 unfold linkV
 go_simp
theorem storeL {w : World} {g : Nat} {c c' : Int} {a a' : ByteArray} (B : Blk w g 196 #[.int .i64 c, .string a]) :
  Blk ((w.setCell ⟨g, 0, none⟩ (.int .i64 c')).setCell ⟨g, 1, none⟩ (.string a')) g 196 #[.int .i64 c', .string a'] ∧ Only [g] w ((w.setCell ⟨g, 0, none⟩ (.int .i64 c')).setCell ⟨g, 1, none⟩ (.string a')) ∧
   w.cell? ⟨g, 0, none⟩ = some (.int .i64 c) ∧ w.cell? ⟨g, 1, none⟩ = some (.string a) ∧ w.frozen? ⟨g, 0, none⟩ = false ∧ w.frozen? ⟨g, 1, none⟩ = false :=
 ⟨(B.set_ 0 _).set_ 1 _, ((Only.refl _ _).setCell (by simp) _).setCell (by simp) _, B.cell_some rfl, B.cell_some rfl, B.frozen 0 (by simp), B.frozen 1 (by simp)⟩
set_option maxRecDepth 100000 in
set_option maxHeartbeats 2000000 in
theorem cread_bad {w : World} {pb sb : Nat} {F : List Nat} {a : St} {k : Int} (h : AtQ w pb sb F a k) (p : Int) (he : (a.readF p).2 ≠ 0) :
  Calls Tryz.prog 179 #[pp pb, .int .i64 p] w fun e w' => e = .returned (.tuple #[linkV 0 ⟨#[]⟩, .int .i64 (a.readF p).2]) ∧ AtQ w' pb sb F a k ∧ Only F w w' := by
 have O0 := Lib.hid (belowAlloc (Below.refl w.heap.size w) (.cells #[.int .i64 0, .string ⟨#[]⟩] 196))
 have B0 := Lib.hid (Blk.new w 196 #[.int .i64 0, .string ⟨#[]⟩])
 have NQ := Lib.hid (show w.heap.size ∉ F from fun hm => by have := h.lt _ hm; omega)
 have KG := Lib.hid (qget_any (h.below O0.out) p)
 have hq : ((a.readF p).2 != 0) = true := by rw [bne_iff_ne]; exact he
 have hq2 : ((a.readF p).2 == 0) = false := by rw [beq_eq_false_iff_ne]; exact he
 generalize a.readF p = R at *
 obtain ⟨R1, R2⟩ := R
 dsimp only at *
 clear h he
 unfold pp at *
 go_enter Tryz.func179, Tryz.ntmps179
 go_wp2_with fail
 refine KG.out.mono ?_
 rintro e w1 ⟨rfl, A1, o1⟩
 have A1 := Lib.hid A1
 have o1 := Lib.hid o1
 obtain ⟨B2, o2, c0, c1, z0, z1⟩ := storeL (c' := 0) (a' := ⟨#[]⟩) (B0.out.only o1.out NQ.out)
 have B2 := Lib.hid B2
 have o2 := Lib.hid o2
 go_wp2_with fail
 exact bodyPost_ret (ret_link rfl rfl B2.out) rfl ⟨rfl, (A1.out).far o2.out NQ.out, only_new1 (((Only.of_below (S := w.heap.size :: F) O0.out).trans (only_sub1 o1.out)).trans (only_one1 o2.out)) (Nat.le_refl _)⟩
set_option maxRecDepth 100000 in
set_option maxHeartbeats 2000000 in
theorem cread_long {w : World} {pb sb : Nat} {F : List Nat} {a : St} {k : Int} (h : AtQ w pb sb F a k) (p : Int) (he : (a.readF p).2 = 0) (H2 : 228 < at2 (a.readF p).1 2) :
  Calls Tryz.prog 179 #[pp pb, .int .i64 p] w fun e w' => e = .returned (.tuple #[linkV 0 ⟨#[]⟩, .int .i64 14]) ∧ AtQ w' pb sb F a k ∧ Only F w w' := by
 have O0 := Lib.hid (belowAlloc (Below.refl w.heap.size w) (.cells #[.int .i64 0, .string ⟨#[]⟩] 196))
 have B0 := Lib.hid (Blk.new w 196 #[.int .i64 0, .string ⟨#[]⟩])
 have NQ := Lib.hid (show w.heap.size ∉ F from fun hm => by have := h.lt _ hm; omega)
 have KG := Lib.hid (qget_any (h.below O0.out) p)
 have hl := h.len he
 have hsz : (⟨(a.readF p).1.toArray⟩ : ByteArray).size = 232 := by show (a.readF p).1.toArray.size = 232; simpa using hl
 have hdl : (a.readF p).1 = (⟨(a.readF p).1.toArray⟩ : ByteArray).data.toList := by simp
 rw [he] at KG
 rw [hdl] at H2
 generalize (⟨(a.readF p).1.toArray⟩ : ByteArray) = s at *
 generalize (a.readF p).1 = R1 at *
 subst hdl
 have b0 := s[0].toNat_lt
 have b1 := s[1].toNat_lt
 have b2 := s[2].toNat_lt
 have b3 := s[3].toNat_lt
 have V0 := Lib.hid (show bits .or .i64 ((s[0].toNat : Int) * 256) (s[1].toNat : Int) = ((at2 s.data.toList 0 : Nat) : Int) from by
  rw [or8 _ _ (by omega) (by omega)]; unfold at2; rw [getD_size _ _ (by omega), getD_size _ _ (by omega)])
 have V2 := Lib.hid (show bits .or .i64 ((s[2].toNat : Int) * 256) (s[3].toNat : Int) = ((at2 s.data.toList 2 : Nat) : Int) from by
  rw [or8 _ _ (by omega) (by omega)]; unfold at2; rw [getD_size _ _ (by omega), getD_size _ _ (by omega)])
 have m0 : at2 s.data.toList 0 ≤ 65535 := by unfold at2; rw [getD_size _ _ (by omega), getD_size _ _ (by omega)]; simp only [Nat.zero_add]; omega
 have u0 : IntKind.i64.wrap (s[0].toNat : Int) = (s[0].toNat : Int) := IntWalk.i64_in _ (by omega)
 have u1 : IntKind.i64.wrap (s[1].toNat : Int) = (s[1].toNat : Int) := IntWalk.i64_in _ (by omega)
 have u2 : IntKind.i64.wrap (s[2].toNat : Int) = (s[2].toNat : Int) := IntWalk.i64_in _ (by omega)
 have u3 : IntKind.i64.wrap (s[3].toNat : Int) = (s[3].toNat : Int) := IntWalk.i64_in _ (by omega)
 have u4 : IntKind.i64.wrap ((s[0].toNat : Int) * 256) = (s[0].toNat : Int) * 256 := IntWalk.i64_in _ (by omega)
 have u5 : IntKind.i64.wrap ((s[2].toNat : Int) * 256) = (s[2].toNat : Int) * 256 := IntWalk.i64_in _ (by omega)
 generalize at2 s.data.toList 2 = m2 at *
 generalize at2 s.data.toList 0 = m1 at *
 clear h he
 unfold pp at *
 go_enter Tryz.func179, Tryz.ntmps179
 go_wp2_with fail
 refine KG.out.mono ?_
 rintro e w1 ⟨rfl, A1, o1⟩
 have A1 := Lib.hid A1
 have o1 := Lib.hid o1
 go_wp2_with fail
 go_quiet (fail)
 rw [V0.out, V2.out]
 obtain ⟨B2, o2, c0, c1, z0, z1⟩ := storeL (c' := 0) (a' := ⟨#[]⟩) ((B0.out.only o1.out NQ.out).drewN nq)
 have B2 := Lib.hid B2
 have o2 := Lib.hid (((Only.refl [w.heap.size] w1).drewN nq).trans o2)
 go_wp2_with fail
 exact bodyPost_ret (ret_link rfl rfl B2.out) rfl ⟨rfl, (A1.out).far o2.out NQ.out, only_new1 (((Only.of_below (S := w.heap.size :: F) O0.out).trans (only_sub1 o1.out)).trans (only_one1 o2.out)) (Nat.le_refl _)⟩
set_option maxRecDepth 100000 in
set_option maxHeartbeats 2000000 in
theorem cread_ok {w : World} {pb sb : Nat} {F : List Nat} {a : St} {k : Int} (h : AtQ w pb sb F a k) (p : Int) (he : (a.readF p).2 = 0) (H2 : at2 (a.readF p).1 2 ≤ 228) :
  Calls Tryz.prog 179 #[pp pb, .int .i64 p] w fun e w' => e = .returned (.tuple #[linkV ((at2 (a.readF p).1 0 : Int) - 1) ⟨(((a.readF p).1.drop 4).take (at2 (a.readF p).1 2)).toArray⟩, .int .i64 0]) ∧ AtQ w' pb sb F a k ∧ Only F w w' := by
 have O0 := Lib.hid (belowAlloc (Below.refl w.heap.size w) (.cells #[.int .i64 0, .string ⟨#[]⟩] 196))
 have B0 := Lib.hid (Blk.new w 196 #[.int .i64 0, .string ⟨#[]⟩])
 have NQ := Lib.hid (show w.heap.size ∉ F from fun hm => by have := h.lt _ hm; omega)
 have KG := Lib.hid (qget_any (h.below O0.out) p)
 have hl := h.len he
 have hsz : (⟨(a.readF p).1.toArray⟩ : ByteArray).size = 232 := by show (a.readF p).1.toArray.size = 232; simpa using hl
 have hdl : (a.readF p).1 = (⟨(a.readF p).1.toArray⟩ : ByteArray).data.toList := by simp
 rw [he] at KG
 rw [hdl] at H2
 generalize (⟨(a.readF p).1.toArray⟩ : ByteArray) = s at *
 generalize (a.readF p).1 = R1 at *
 subst hdl
 have b0 := s[0].toNat_lt
 have b1 := s[1].toNat_lt
 have b2 := s[2].toNat_lt
 have b3 := s[3].toNat_lt
 have V0 := Lib.hid (show bits .or .i64 ((s[0].toNat : Int) * 256) (s[1].toNat : Int) = ((at2 s.data.toList 0 : Nat) : Int) from by
  rw [or8 _ _ (by omega) (by omega)]; unfold at2; rw [getD_size _ _ (by omega), getD_size _ _ (by omega)])
 have V2 := Lib.hid (show bits .or .i64 ((s[2].toNat : Int) * 256) (s[3].toNat : Int) = ((at2 s.data.toList 2 : Nat) : Int) from by
  rw [or8 _ _ (by omega) (by omega)]; unfold at2; rw [getD_size _ _ (by omega), getD_size _ _ (by omega)])
 have m0 : at2 s.data.toList 0 ≤ 65535 := by unfold at2; rw [getD_size _ _ (by omega), getD_size _ _ (by omega)]; simp only [Nat.zero_add]; omega
 have u0 : IntKind.i64.wrap (s[0].toNat : Int) = (s[0].toNat : Int) := IntWalk.i64_in _ (by omega)
 have u1 : IntKind.i64.wrap (s[1].toNat : Int) = (s[1].toNat : Int) := IntWalk.i64_in _ (by omega)
 have u2 : IntKind.i64.wrap (s[2].toNat : Int) = (s[2].toNat : Int) := IntWalk.i64_in _ (by omega)
 have u3 : IntKind.i64.wrap (s[3].toNat : Int) = (s[3].toNat : Int) := IntWalk.i64_in _ (by omega)
 have u4 : IntKind.i64.wrap ((s[0].toNat : Int) * 256) = (s[0].toNat : Int) * 256 := IntWalk.i64_in _ (by omega)
 have u5 : IntKind.i64.wrap ((s[2].toNat : Int) * 256) = (s[2].toNat : Int) * 256 := IntWalk.i64_in _ (by omega)
 have HX := Lib.hid (show s.extract 4 (4 + at2 s.data.toList 2) = ⟨((s.data.toList.drop 4).take (at2 s.data.toList 2)).toArray⟩ from by
  apply ByteArray.ext
  apply Array.toList_inj.1
  show (s.extract 4 (4 + at2 s.data.toList 2)).data.toList = (s.data.toList.drop 4).take (at2 s.data.toList 2)
  rw [exl', show 4 + at2 s.data.toList 2 - 4 = at2 s.data.toList 2 by omega])
 generalize (⟨((s.data.toList.drop 4).take (at2 s.data.toList 2)).toArray⟩ : ByteArray) = P at *
 generalize at2 s.data.toList 2 = m2 at *
 generalize at2 s.data.toList 0 = m1 at *
 have u6 : IntKind.i64.wrap ((m1 : Int) - 1) = (m1 : Int) - 1 := IntWalk.i64_in _ (by omega)
 have u7 : IntKind.i64.wrap (4 + (m2 : Int)) = 4 + (m2 : Int) := IntWalk.i64_in _ (by omega)
 have u8 : (4 + (m2 : Int)).toNat = 4 + m2 := by omega
 clear h he
 unfold pp at *
 go_enter Tryz.func179, Tryz.ntmps179
 go_wp2_with fail
 refine KG.out.mono ?_
 rintro e w1 ⟨rfl, A1, o1⟩
 have A1 := Lib.hid A1
 have o1 := Lib.hid o1
 go_wp2_with fail
 go_quiet (fail)
 rw [V0.out, V2.out]
 obtain ⟨B2, o2, c0, c1, z0, z1⟩ := storeL (c' := (m1 : Int) - 1) (a' := s.extract 4 (4 + m2)) ((B0.out.only o1.out NQ.out).drewN nq)
 have B2 := Lib.hid B2
 have o2 := Lib.hid (((Only.refl [w.heap.size] w1).drewN nq).trans o2)
 go_wp2_with fail
 exact bodyPost_ret (ret_link rfl rfl B2.out) rfl ⟨by rw [HX.out]; rfl, (A1.out).far o2.out NQ.out, only_new1 (((Only.of_below (S := w.heap.size :: F) O0.out).trans (only_sub1 o1.out)).trans (only_one1 o2.out)) (Nat.le_refl _)⟩
theorem cread_any {w : World} {pb sb : Nat} {F : List Nat} {a : St} {k : Int} (h : AtQ w pb sb F a k) (p : Int) :
  Calls Tryz.prog 179 #[pp pb, .int .i64 p] w fun e w' => e = .returned (.tuple #[linkV (a.readC p).1 ⟨(a.readC p).2.1.toArray⟩, .int .i64 (a.readC p).2.2]) ∧ AtQ w' pb sb F a k ∧ Only F w w' := by
 unfold St.readC
 by_cases h0 : (a.readF p).2 = 0
 ·rw [if_neg (by simpa using h0)]
  by_cases h1 : 228 < at2 (a.readF p).1 2
  ·rw [if_pos h1]
   exact cread_long h p h0 h1
  ·rw [if_neg h1]
   exact cread_ok h p h0 (by omega)
 ·rw [if_pos h0]
  exact cread_bad h p h0
end Go.Proofs.YtbelcgjbhpjnpaaGreat.Sh

/- chain by its contracts: walk. -/
namespace Go.Proofs.YtbelcgjbhpjnpaaGreat.Sh
open Go.RowKit Pk Dk Pg
attribute [local go_sem ↓] Go.wp_at_zero Go.wp_at_succ exec_app exec_appS
/-- a chain gone through from a page on, with so many pages at most -/
def St.walkF (a : St) : Nat → Int → List Int → List UInt8 → List Int × List UInt8 × Int
 | 0, _, _, _ => ([], [], 14)
 | m + 1, at_, l, b =>
  if (a.readC at_).2.2 = 3 ∧ 0 < l.length then ([], [], 14)
  else if (a.readC at_).2.2 ≠ 0 then ([], [], (a.readC at_).2.2)
  else if 1024 < (b ++ (a.readC at_).2.1).length then ([], [], 14)
  else if (a.readC at_).1 < 0 then (l ++ [at_], b ++ (a.readC at_).2.1, 0)
  else a.walkF m (a.readC at_).1 (l ++ [at_]) (b ++ (a.readC at_).2.1)
def St.cwalkF (a : St) (first : Int) : List Int × List UInt8 × Int := a.walkF 5 first [] []
theorem readC_bd (a : St) (l : Int) : (a.readC l).1 ≤ 65534 ∧ -1 ≤ (a.readC l).1 ∧ (a.readC l).2.1.length ≤ 228 := by
 unfold St.readC
 split
 ·exact ⟨by show (0 : Int) ≤ _; omega, by show (-1 : Int) ≤ 0; omega, by show 0 ≤ 228; omega⟩
 ·split
  ·exact ⟨by show (0 : Int) ≤ _; omega, by show (-1 : Int) ≤ 0; omega, by show 0 ≤ 228; omega⟩
  ·refine ⟨?_, ?_, ?_⟩
   ·show (at2 _ 0 : Int) - 1 ≤ _
    unfold at2
    have := (List.getD (a.readF l).1 0 0).toNat_lt
    have := (List.getD (a.readF l).1 (0 + 1) 0).toNat_lt
    omega
   ·show -1 ≤ (at2 _ 0 : Int) - 1
    omega
   ·rw [List.length_take]; omega
theorem slc_own {w : World} {e : TypeId} {z n : Nat} {v : Value} {l : List Value} (h : Slc w e z v n l) : ∀ g ∈ ownB v, ∃ cs, Blk w g e cs := by
 rcases h.2 with ⟨rfl, _⟩ | ⟨g, cap, rest, rfl, B, _⟩
 ·simp [ownB]
 ·intro x hx
  simp only [ownB, List.mem_singleton] at hx
  exact ⟨_, by rw [hx]; exact B⟩
theorem slc_apart {w : World} {e t : TypeId} {z y n m : Nat} {v u : Value} {l k : List Value} (h : Slc w e z v n l) (h' : Slc w t y u m k) (hne : e ≠ t) : ∀ g ∈ ownB v, g ∉ ownB u := fun g hg hu => by
 obtain ⟨cs, B⟩ := slc_own h g hg
 exact slc_ne h' B hne hu
set_option maxRecDepth 100000 in
set_option maxHeartbeats 4000000 in
theorem cwalk_any {w : World} {pb sb : Nat} {F : List Nat} {a : St} {k : Int} (h : AtQ w pb sb F a k) (p : Int) :
  Calls Tryz.prog 138 #[pp pb, .int .i64 p] w fun e w' => ∃ A n c, e = .returned (.tuple #[.slice A n c, .string ⟨(a.cwalkF p).2.1.toArray⟩, .int .i64 (a.cwalkF p).2.2]) ∧ Slc w' 3 1 (.slice A n c) (a.cwalkF p).1.length (nvs' (a.cwalkF p).1) ∧ AtQ w' pb sb F a k ∧ Only F w w' ∧ ∀ g ∈ ownB (.slice A n c), w.heap.size ≤ g := by
 have KN := Lib.hid (cneed_any 1024 (by omega))
 rw [show cneedF 1024 = 5 from rfl] at KN
 have KR := Lib.hid (fun (W : World) (hW : AtQ W pb sb F a k) (q : Int) => cread_any hW q)
 have HLT := Lib.hid h.lt
 obtain ⟨R, hR⟩ : ∃ R, a.cwalkF p = R := ⟨_, rfl⟩
 rw [hR]
 have HQ := Lib.hid h
 unfold St.cwalkF at hR
 have HR := Lib.hid hR
 clear h hR
 unfold linkV at KR
 unfold pp at *
 go_enter Tryz.func138, Tryz.ntmps138
 go_wp2_with fail
 refine (KN.out _).mono ?_
 rintro e w1 ⟨rfl, rfl⟩
 go_wp2_with fail
 go_loopw [7, 8, 9, 16] (fun lv bv av iv wr => ∃ (i : Nat) (l : List Int) (b : List UInt8) (at_ : Int), i ≤ 5 ∧ l.length = i ∧ iv = .int .i64 i ∧ av = .int .i64 at_ ∧ b.length ≤ 1024 ∧ Slc wr 3 1 lv i (nvs' l) ∧ Slc wr 5 1 bv b.length (bvs b) ∧ Hid (a.walkF (5 - i) at_ l b = R) ∧ Hid (AtQ wr pb sb F a k ∧ Only F w wr ∧ (∀ g ∈ ownB lv, w.heap.size ≤ g) ∧ (∀ g ∈ ownB bv, w.heap.size ≤ g))) (fun _ _ _ iv _ => 5 - (intOf iv).toNat)
 case atStart => exact ⟨0, [], [], p, by omega, rfl, rfl, rfl, by simp, Slc.nil _ _ _, Slc.nil _ _ _, HR, Lib.hid ⟨HQ.out, Only.refl _ _, by simp [ownB], by simp [ownB]⟩⟩
 case round =>
  obtain ⟨i, l, b, at_, hi, hl, rfl, rfl, hb, S1, S2, HW, HA⟩ := hrel
  obtain ⟨VA, vc, rfl⟩ := slc_val S1
  obtain ⟨VB, vb, rfl⟩ := slc_val S2
  by_cases h5 : i < 5
  ·have K1 := Lib.hid (KR.out wr HA.out.1 at_)
   obtain ⟨bd1, bd2, bd3⟩ := readC_bd a at_
   have HW := HW.out
   rw [show 5 - i = (5 - (i + 1)) + 1 by omega] at HW
   unfold St.walkF at HW
   rw [hl] at HW
   generalize a.readC at_ = r at *
   obtain ⟨nx, pc, er⟩ := r
   dsimp only at *
   by_cases he : er = 0
   ·subst he
    rw [if_neg (by omega), if_neg (by simp)] at HW
    have W2 := Lib.hid (show ∀ w2, AtQ w2 pb sb F a k → Only F wr w2 → AtQ (w2.alloc (.cells #[.int .i64 nx, .string ⟨pc.toArray⟩] 196)) pb sb F a k ∧ Only F w (w2.alloc (.cells #[.int .i64 nx, .string ⟨pc.toArray⟩] 196)) ∧
      Slc (w2.alloc (.cells #[.int .i64 nx, .string ⟨pc.toArray⟩] 196)) 3 1 (.slice VA i vc) i (nvs' l) ∧ Slc (w2.alloc (.cells #[.int .i64 nx, .string ⟨pc.toArray⟩] 196)) 5 1 (.slice VB b.length vb) b.length (bvs b) ∧ Blk (w2.alloc (.cells #[.int .i64 nx, .string ⟨pc.toArray⟩] 196)) w2.heap.size 196 #[.int .i64 nx, .string ⟨pc.toArray⟩] ∧ w2.heap.size ∉ ownB (.slice VA i vc) ∧ w2.heap.size ∉ ownB (.slice VB b.length vb) from fun w2 A2 o2 => by
     obtain ⟨a1, a2, a3, a4⟩ := HA.out
     have U := belowAlloc (Below.refl w2.heap.size w2) (.cells #[.int .i64 nx, .string ⟨pc.toArray⟩] 196)
     have s1 := S1.only o2 (fun g hg hF => by have := HLT.out g hF; have := a3 g hg; omega)
     have s2 := S2.only o2 (fun g hg hF => by have := HLT.out g hF; have := a4 g hg; omega)
     exact ⟨A2.below U, (a2.trans o2).trans (.of_below U), s1.below U, s2.below U, Blk.new _ _ _, fun hg => by have := s1.lt _ hg; omega, fun hg => by have := s2.lt _ hg; omega⟩)
    by_cases hL : 1024 < (b ++ pc).length
    ·rw [if_pos hL] at HW
     subst HW
     rw [List.length_append] at hL
     go_wp2_with fail
     refine K1.out.mono ?_
     rintro e w2 ⟨rfl, A2, o2⟩
     obtain ⟨A3, o3, s1, s2, LK, n1, n2⟩ := W2.out w2 A2 o2
     obtain ⟨v', w4, ea, S4, ow, fr⟩ := append_one (P := Tryz.prog) s1 52 52 (.int .i64 0) 8 Tryz.underlying52 info_int2 rfl (.int .i64 at_) rfl (by unfold maxLen; omega) (by omega)
     have s4 := s2.only ow (slc_apart s2 s1 (by decide))
     have L4 := LK.only ow n1
     have A4 := A3.only ow (fun g hF hg => by have := HLT.out g hF; have := HA.out.2.2.1 g hg; omega)
     obtain ⟨u', w5, eb, S5, ov, fv⟩ := append_str (P := Tryz.prog) s4 141 9 141 Tryz.underlying141 Tryz.underlying9 Crc.info_u8 ⟨pc.toArray⟩ (by show _ + pc.toArray.size ≤ _; simp; omega)
     have S6 := S4.only ov (fun g hg => slc_apart S4 s4 (by decide) g hg)
     have L6 := L4.only ov n2
     have A6 := Lib.hid (A4.only ov (fun g hF hg => by have := HLT.out g hF; have := HA.out.2.2.2 g hg; omega))
     have k1 := L4.cell_some (i := 1) rfl
     have k0 := L6.cell_some (i := 0) rfl
     have O6 := Lib.hid (show Only F w w5 from ((o3.trans_of ow (fun g hg hlt => by have := HA.out.2.2.1 g hg; omega)).trans_of ov (fun g hg hlt => by have := HA.out.2.2.2 g hg; omega)))
     have F4 := Lib.hid (show ∀ g ∈ ownB v', w.heap.size ≤ g from fun g hg => (fr g hg).elim (HA.out.2.2.1 g) (fun h => by have := o3.size; omega))
     have F5 := Lib.hid (show ∀ g ∈ ownB u', w.heap.size ≤ g from fun g hg => (fv g hg).elim (HA.out.2.2.2 g) (fun h => by have := o3.size; have := ow.size; omega))
     obtain ⟨V4, c4, rfl⟩ := slc_val S4
     rw [show (⟨pc.toArray⟩ : ByteArray).size = pc.length from by show pc.toArray.size = _; simp, show (⟨pc.toArray⟩ : ByteArray).data.toList = pc from rfl, ← bvs_append] at S5
     obtain ⟨V5, c5, rfl⟩ := slc_val S5
     have SV := Lib.hid (show Slc w5 5 1 (.slice V5 (b.length + pc.length) c5) (b ++ pc).length (bvs (b ++ pc)) from by rw [List.length_append]; exact S5)
     have CV := Lib.hid (str_slc (P := Tryz.prog) S5.drew 141 9 Tryz.underlying141 Tryz.underlying5 Tryz.underlying9)
     rw [World.size_alloc] at ea
     have EA := Lib.hid ea
     have EB := Lib.hid eb
     clear ea eb ow ov fr fv S4 s4 L4 A4 L6 LK A3 A2 o2 o3 s1 s2 n1 n2
     go_wp2_with fail
     rw [EA.out]
     go_wp2_with fail
     rw [EB.out]
     go_wp2_with fail
     go_ret3
     exact ⟨none, 0, 0, by first | rfl | simp, Slc.nil _ _ _, A6.out, O6.out, by simp [ownB]⟩
    ·rw [if_neg hL] at HW
     have hL2 : b.length + pc.length ≤ 1024 := by rw [List.length_append] at hL; omega
     by_cases hn : nx < 0
     ·rw [if_pos hn] at HW
      subst HW
      go_wp2_with fail
      refine K1.out.mono ?_
      rintro e w2 ⟨rfl, A2, o2⟩
      obtain ⟨A3, o3, s1, s2, LK, n1, n2⟩ := W2.out w2 A2 o2
      obtain ⟨v', w4, ea, S4, ow, fr⟩ := append_one (P := Tryz.prog) s1 52 52 (.int .i64 0) 8 Tryz.underlying52 info_int2 rfl (.int .i64 at_) rfl (by unfold maxLen; omega) (by omega)
      have s4 := s2.only ow (slc_apart s2 s1 (by decide))
      have L4 := LK.only ow n1
      have A4 := A3.only ow (fun g hF hg => by have := HLT.out g hF; have := HA.out.2.2.1 g hg; omega)
      obtain ⟨u', w5, eb, S5, ov, fv⟩ := append_str (P := Tryz.prog) s4 141 9 141 Tryz.underlying141 Tryz.underlying9 Crc.info_u8 ⟨pc.toArray⟩ (by show _ + pc.toArray.size ≤ _; simp; omega)
      have S6 := S4.only ov (fun g hg => slc_apart S4 s4 (by decide) g hg)
      have L6 := L4.only ov n2
      have A6 := Lib.hid (A4.only ov (fun g hF hg => by have := HLT.out g hF; have := HA.out.2.2.2 g hg; omega))
      have k1 := L4.cell_some (i := 1) rfl
      have k0 := L6.cell_some (i := 0) rfl
      have O6 := Lib.hid (show Only F w w5 from ((o3.trans_of ow (fun g hg hlt => by have := HA.out.2.2.1 g hg; omega)).trans_of ov (fun g hg hlt => by have := HA.out.2.2.2 g hg; omega)))
      have F4 := Lib.hid (show ∀ g ∈ ownB v', w.heap.size ≤ g from fun g hg => (fr g hg).elim (HA.out.2.2.1 g) (fun h => by have := o3.size; omega))
      have F5 := Lib.hid (show ∀ g ∈ ownB u', w.heap.size ≤ g from fun g hg => (fv g hg).elim (HA.out.2.2.2 g) (fun h => by have := o3.size; have := ow.size; omega))
      obtain ⟨V4, c4, rfl⟩ := slc_val S4
      rw [show (⟨pc.toArray⟩ : ByteArray).size = pc.length from by show pc.toArray.size = _; simp, show (⟨pc.toArray⟩ : ByteArray).data.toList = pc from rfl, ← bvs_append] at S5
      obtain ⟨V5, c5, rfl⟩ := slc_val S5
      have SV := Lib.hid (show Slc w5 5 1 (.slice V5 (b.length + pc.length) c5) (b ++ pc).length (bvs (b ++ pc)) from by rw [List.length_append]; exact S5)
      have CV := Lib.hid (str_slc (P := Tryz.prog) S5.drew 141 9 Tryz.underlying141 Tryz.underlying5 Tryz.underlying9)
      rw [World.size_alloc] at ea
      have EA := Lib.hid ea
      have EB := Lib.hid eb
      clear ea eb ow ov fr fv S4 s4 L4 A4 L6 LK A3 A2 o2 o3 s1 s2 n1 n2
      go_wp2_with fail
      rw [EA.out]
      go_wp2_with fail
      rw [EB.out]
      go_wp2_with fail
      have CV := CV.out
      go_region
      go_wp2_with fail
      go_ret3
      exact ⟨V4, i + 1, c4, by first | rfl | simp, by rw [nvs'_append]; first | exact S6.drew | (rw [List.length_append, hl]; exact S6.drew), A6.out.below ((Below.refl _ _).drew), O6.out.drew, F4.out⟩
     ·rw [if_neg hn] at HW
      have HW := Lib.hid HW
      go_wp2_with fail
      refine K1.out.mono ?_
      rintro e w2 ⟨rfl, A2, o2⟩
      obtain ⟨A3, o3, s1, s2, LK, n1, n2⟩ := W2.out w2 A2 o2
      obtain ⟨v', w4, ea, S4, ow, fr⟩ := append_one (P := Tryz.prog) s1 52 52 (.int .i64 0) 8 Tryz.underlying52 info_int2 rfl (.int .i64 at_) rfl (by unfold maxLen; omega) (by omega)
      have s4 := s2.only ow (slc_apart s2 s1 (by decide))
      have L4 := LK.only ow n1
      have A4 := A3.only ow (fun g hF hg => by have := HLT.out g hF; have := HA.out.2.2.1 g hg; omega)
      obtain ⟨u', w5, eb, S5, ov, fv⟩ := append_str (P := Tryz.prog) s4 141 9 141 Tryz.underlying141 Tryz.underlying9 Crc.info_u8 ⟨pc.toArray⟩ (by show _ + pc.toArray.size ≤ _; simp; omega)
      have S6 := S4.only ov (fun g hg => slc_apart S4 s4 (by decide) g hg)
      have L6 := L4.only ov n2
      have A6 := Lib.hid (A4.only ov (fun g hF hg => by have := HLT.out g hF; have := HA.out.2.2.2 g hg; omega))
      have k1 := L4.cell_some (i := 1) rfl
      have k0 := L6.cell_some (i := 0) rfl
      have O6 := Lib.hid (show Only F w w5 from ((o3.trans_of ow (fun g hg hlt => by have := HA.out.2.2.1 g hg; omega)).trans_of ov (fun g hg hlt => by have := HA.out.2.2.2 g hg; omega)))
      have F4 := Lib.hid (show ∀ g ∈ ownB v', w.heap.size ≤ g from fun g hg => (fr g hg).elim (HA.out.2.2.1 g) (fun h => by have := o3.size; omega))
      have F5 := Lib.hid (show ∀ g ∈ ownB u', w.heap.size ≤ g from fun g hg => (fv g hg).elim (HA.out.2.2.2 g) (fun h => by have := o3.size; have := ow.size; omega))
      obtain ⟨V4, c4, rfl⟩ := slc_val S4
      rw [show (⟨pc.toArray⟩ : ByteArray).size = pc.length from by show pc.toArray.size = _; simp, show (⟨pc.toArray⟩ : ByteArray).data.toList = pc from rfl, ← bvs_append] at S5
      obtain ⟨V5, c5, rfl⟩ := slc_val S5
      have SV := Lib.hid (show Slc w5 5 1 (.slice V5 (b.length + pc.length) c5) (b ++ pc).length (bvs (b ++ pc)) from by rw [List.length_append]; exact S5)
      have CV := Lib.hid (str_slc (P := Tryz.prog) S5.drew 141 9 Tryz.underlying141 Tryz.underlying5 Tryz.underlying9)
      rw [World.size_alloc] at ea
      have EA := Lib.hid ea
      have EB := Lib.hid eb
      clear ea eb ow ov fr fv S4 s4 L4 A4 L6 LK A3 A2 o2 o3 s1 s2 n1 n2
      go_wp2_with fail
      rw [EA.out]
      go_wp2_with fail
      rw [EB.out]
      go_wp2_with fail
      go_roundw
      case rel => exact ⟨i + 1, l ++ [at_], b ++ pc, nx, by omega, by simp [hl], by go_num, rfl, by rw [List.length_append]; exact hL2, by rw [nvs'_append]; exact S6, SV.out, HW, Lib.hid ⟨A6.out, O6.out, F4.out, F5.out⟩⟩
      case measure => simp [intOf]; omega
   ·have hq : (er != 0) = true := by rw [bne_iff_ne]; exact he
    have hq2 : (er == 0) = false := by rw [beq_eq_false_iff_ne]; exact he
    have W2 := Lib.hid (show ∀ w2, AtQ w2 pb sb F a k → Only F wr w2 → AtQ (w2.alloc (.cells #[.int .i64 nx, .string ⟨pc.toArray⟩] 196)) pb sb F a k ∧ Only F w (w2.alloc (.cells #[.int .i64 nx, .string ⟨pc.toArray⟩] 196)) from fun w2 A2 o2 => by
     obtain ⟨a1, a2, a3, a4⟩ := HA.out
     have U := belowAlloc (Below.refl w2.heap.size w2) (.cells #[.int .i64 nx, .string ⟨pc.toArray⟩] 196)
     exact ⟨A2.below U, (a2.trans o2).trans (.of_below U)⟩)
    by_cases h3 : er = 3 ∧ 0 < i
    ·rw [if_pos h3] at HW
     subst HW
     obtain ⟨rfl, h3⟩ := h3
     go_wp2_with fail
     refine K1.out.mono ?_
     rintro e w2 ⟨rfl, A2, o2⟩
     obtain ⟨A3, o3⟩ := W2.out w2 A2 o2
     have A3 := Lib.hid A3
     have o3 := Lib.hid o3
     clear A2 o2
     go_wp2_with fail
     go_ret3
     exact ⟨none, 0, 0, by first | rfl | simp, Slc.nil _ _ _, A3.out, o3.out, by simp [ownB]⟩
    ·rw [if_neg h3, if_pos he] at HW
     subst HW
     have h33 : er = 3 → ¬ 0 < i := fun e h => h3 ⟨e, h⟩
     have hq3 : i = 0 ∨ ((er == 3) = false ∧ er ≠ 3) := by
      by_cases e : er = 3
      ·exact .inl (by have := h33 e; omega)
      ·exact .inr ⟨by rw [beq_eq_false_iff_ne]; exact e, e⟩
     rcases hq3 with hi0 | ⟨hq3, hq4⟩
     all_goals
      clear h33 h3
      go_wp2_with fail
      refine K1.out.mono ?_
      rintro e w2 ⟨rfl, A2, o2⟩
      obtain ⟨A3, o3⟩ := W2.out w2 A2 o2
      have A3 := Lib.hid A3
      have o3 := Lib.hid o3
      clear A2 o2
      go_wp2_with fail
      all_goals
       go_ret3
       exact ⟨none, 0, 0, by first | rfl | simp, Slc.nil _ _ _, A3.out, o3.out, by simp [ownB]⟩
  ·have HW := HW.out
   rw [show 5 - i = 0 by omega] at HW
   unfold St.walkF at HW
   subst HW
   go_wp2_with fail
   go_ret3
   exact ⟨none, 0, 0, by first | rfl | simp, Slc.nil _ _ _, HA.out.1, HA.out.2.1, by simp [ownB]⟩
end Go.Proofs.YtbelcgjbhpjnpaaGreat.Sh

/- chain by its contracts: Get, Pages, Drop. -/
namespace Go.Proofs.YtbelcgjbhpjnpaaGreat.Sh
open Go.RowKit Pk Dk Pg
attribute [local go_sem ↓] Go.wp_at_zero Go.wp_at_succ
set_option maxRecDepth 100000 in
set_option maxHeartbeats 2000000 in
theorem cget_any {w : World} {pb sb : Nat} {F : List Nat} {a : St} {k : Int} (h : AtQ w pb sb F a k) (p : Int) :
  Calls Tryz.prog 66 #[pp pb, .int .i64 p] w fun e w' => e = .returned (.tuple #[.string ⟨(a.cwalkF p).2.1.toArray⟩, .int .i64 (a.cwalkF p).2.2]) ∧ AtQ w' pb sb F a k ∧ Only F w w' := by
 have K := Lib.hid (cwalk_any h p)
 generalize a.cwalkF p = R at *
 clear h
 unfold pp at *
 go_enter Tryz.func66, Tryz.ntmps66
 go_wp2_with fail
 refine K.out.mono ?_
 rintro e w1 ⟨A, n, c, rfl, S1, A1, o1, f1⟩
 have S1 := Lib.hid S1
 have A1 := Lib.hid A1
 have o1 := Lib.hid o1
 go_wp2_with fail
 go_ret2
 exact ⟨by first | rfl | simp, A1.out, o1.out⟩
set_option maxRecDepth 100000 in
set_option maxHeartbeats 2000000 in
theorem cpages_any {w : World} {pb sb : Nat} {F : List Nat} {a : St} {k : Int} (h : AtQ w pb sb F a k) (p : Int) :
  Calls Tryz.prog 131 #[pp pb, .int .i64 p] w fun e w' => ∃ A n c, e = .returned (.tuple #[.slice A n c, .int .i64 (a.cwalkF p).2.2]) ∧ Slc w' 3 1 (.slice A n c) (a.cwalkF p).1.length (nvs' (a.cwalkF p).1) ∧ AtQ w' pb sb F a k ∧ Only F w w' ∧ ∀ g ∈ ownB (.slice A n c), w.heap.size ≤ g := by
 have K := Lib.hid (cwalk_any h p)
 generalize a.cwalkF p = R at *
 clear h
 unfold pp at *
 go_enter Tryz.func131, Tryz.ntmps131
 go_wp2_with fail
 refine K.out.mono ?_
 rintro e w1 ⟨A, n, c, rfl, S1, A1, o1, f1⟩
 have S1 := Lib.hid S1
 have A1 := Lib.hid A1
 have o1 := Lib.hid o1
 go_wp2_with fail
 go_ret2
 exact ⟨A, n, c, by first | rfl | simp, S1.out, A1.out, o1.out, f1⟩
/-- pages dropped one behind the other, until one can't be -/
def St.dropL (a : St) : List Int → St × Int
 | [] => (a, 0)
 | p :: l => if (a.dropF p).2 ≠ 0 then ((a.dropF p).1, (a.dropF p).2) else (a.dropF p).1.dropL l
def St.cdropF (a : St) (p : Int) : St × Int := if (a.cwalkF p).2.2 ≠ 0 then (a, (a.cwalkF p).2.2) else a.dropL (a.cwalkF p).1
theorem walkF_len (a : St) : ∀ (m : Nat) (p : Int) (l : List Int) (b : List UInt8), (a.walkF m p l b).1.length ≤ l.length + m
 | 0, _, _, _ => by simp [St.walkF]
 | m + 1, p, l, b => by
  unfold St.walkF
  split
  ·simp
  ·split
   ·simp
   ·split
    ·simp
    ·split
     ·simp <;> omega
     ·have := walkF_len a m (a.readC p).1 (l ++ [p]) (b ++ (a.readC p).2.1)
      simp only [List.length_append, List.length_cons, List.length_nil] at this
      omega
set_option maxRecDepth 100000 in
set_option maxHeartbeats 2000000 in
theorem cdrop_any {w : World} {pb sb : Nat} {F : List Nat} {a : St} {k : Int} (h : AtQ w pb sb F a k) (p : Int) :
  Calls Tryz.prog 65 #[pp pb, .int .i64 p] w fun e w' => e = .returned (.int .i64 (a.cdropF p).2) ∧ AtQ w' pb sb F (a.cdropF p).1 k ∧ Only F w w' := by
 have K := Lib.hid (cwalk_any h p)
 have KD := Lib.hid (fun (W : World) (b : St) (hW : AtQ W pb sb F b k) (q : Int) => qdrop_any hW q)
 have HLT := Lib.hid h.lt
 obtain ⟨R, hR⟩ : ∃ R, a.cdropF p = R := ⟨_, rfl⟩
 rw [hR]
 unfold St.cdropF at hR
 have hlen : (a.cwalkF p).1.length ≤ 5 := walkF_len a 5 p [] []
 generalize a.cwalkF p = Q at *
 obtain ⟨L, B, E⟩ := Q
 dsimp only at *
 clear h
 unfold pp at *
 by_cases h0 : E = 0
 ·subst h0
  rw [if_neg (by simp)] at hR
  have HR := Lib.hid hR
  clear hR
  go_enter Tryz.func65, Tryz.ntmps65
  go_wp2_with fail
  refine K.out.mono ?_
  rintro e w1 ⟨A, n, c, rfl, S1, A1, o1, f1⟩
  obtain ⟨A', c', e⟩ := slc_val S1
  injection e with e1 e2 e3
  subst e1 e2 e3
  have HL := Lib.hid S1
  have H1 := Lib.hid (And.intro A1 (And.intro o1 f1))
  clear S1 A1 o1 f1
  go_wp2_with fail
  go_loopw [23] (fun iv wr => ∃ (i : Nat) (b : St), i ≤ L.length ∧ iv = .int .i64 i ∧ Hid (b.dropL (L.drop i) = R) ∧ Hid (AtQ wr pb sb F b k ∧ Only F w wr ∧ Slc wr 3 1 (.slice A L.length c) L.length (nvs' L))) (fun iv _ => L.length - (intOf iv).toNat)
  case atStart => exact ⟨0, a, Nat.zero_le _, rfl, HR, Lib.hid ⟨H1.out.1, H1.out.2.1, HL.out⟩⟩
  case round =>
   obtain ⟨i, b, hi, rfl, HW, HA⟩ := hrel
   by_cases h : i < L.length
   ·obtain ⟨x, hx⟩ : ∃ x, L[i]? = some x := ⟨L[i], List.getElem?_eq_getElem h⟩
    have hdr : L.drop i = x :: L.drop (i + 1) := by
     rw [List.drop_eq_getElem_cons h]
     congr 1
     rw [List.getElem?_eq_getElem h] at hx
     injection hx
    obtain ⟨g, cp, rest, hv, BB, _⟩ : ∃ g cp rest, (Value.slice A L.length c) = .slice (some ⟨g, 0, none⟩) L.length cp ∧ Blk wr g 3 (nvs' L ++ rest).toArray ∧ True := by
     rcases HA.out.2.2.2 with ⟨h1, h2⟩ | ⟨g, cap, rest, h1, h2, _⟩
     ·omega
     ·exact ⟨g, cap, rest, h1, h2, trivial⟩
    injection hv with e1 e2 e3
    subst e1 e3
    have cx : wr.cell? ⟨g, i, none⟩ = some (.int .i64 x) := BB.cell_some (by
     rw [List.getElem?_toArray, List.getElem?_append_left (by simpa using h)]
     simp [nvs', hx])
    have HW2 := HW.out
    rw [hdr] at HW2
    unfold St.dropL at HW2
    have K2 := Lib.hid (KD.out wr b HA.out.1 x)
    have hiI : (i : Int) < (L.length : Int) := by omega
    have hl5 : (L.length : Int) ≤ 5 := by have := hlen; omega
    have HFR := Lib.hid (show ∀ g' ∈ ownB (.slice (some ⟨g, 0, none⟩) L.length c), g' ∉ F from fun g' hg hF => by have := H1.out.2.2 g' hg; have := HLT.out g' hF; omega)
    generalize b.dropF x = D at *
    obtain ⟨D1, D2⟩ := D
    dsimp only at *
    by_cases hd : D2 = 0
    ·subst hd
     rw [if_neg (by simp)] at HW2
     have HW2 := Lib.hid HW2
     clear BB hx hdr
     go_wp2_with fail
     refine K2.out.mono ?_
     rintro e w2 ⟨rfl, A2, o2⟩
     have H2 := Lib.hid (show AtQ w2 pb sb F D1 k ∧ Only F w w2 ∧ Slc w2 3 1 (.slice (some ⟨g, 0, none⟩) L.length c) L.length (nvs' L) from ⟨A2, HA.out.2.1.trans o2, HA.out.2.2.only o2 HFR.out⟩)
     clear A2 o2 cx
     go_wp2_with fail
     go_roundw
     case rel => exact ⟨i + 1, D1, by omega, by go_num, HW2, H2⟩
     case measure => simp [intOf]; omega
    ·rw [if_pos hd] at HW2
     subst HW2
     have hq : (D2 != 0) = true := by rw [bne_iff_ne]; exact hd
     have hq2 : (D2 == 0) = false := by rw [beq_eq_false_iff_ne]; exact hd
     clear BB hx hdr
     go_wp2_with fail
     refine K2.out.mono ?_
     rintro e w2 ⟨rfl, A2, o2⟩
     have H2 := Lib.hid (show AtQ w2 pb sb F D1 k ∧ Only F w w2 from ⟨A2, HA.out.2.1.trans o2⟩)
     clear A2 o2 cx
     go_wp2_with fail
     go_ret
     exact ⟨by first | rfl | simp, H2.out.1, H2.out.2⟩
   ·have HW2 := HW.out
    rw [List.drop_eq_nil_of_le (by omega)] at HW2
    unfold St.dropL at HW2
    subst HW2
    obtain rfl : i = L.length := by omega
    go_wp2_with fail
    go_ret
    exact ⟨by first | rfl | simp, HA.out.1, HA.out.2.1⟩
 ·rw [if_pos h0] at hR
  subst hR
  have hq : (E != 0) = true := by rw [bne_iff_ne]; exact h0
  have hq2 : (E == 0) = false := by rw [beq_eq_false_iff_ne]; exact h0
  go_enter Tryz.func65, Tryz.ntmps65
  go_wp2_with fail
  refine K.out.mono ?_
  rintro e w1 ⟨A, n, c, rfl, S1, A1, o1, f1⟩
  have H1 := Lib.hid (And.intro A1 o1)
  clear S1 A1 o1 f1
  go_wp2_with fail
  go_ret
  exact ⟨by first | rfl | simp, H1.out.1, H1.out.2⟩
end Go.Proofs.YtbelcgjbhpjnpaaGreat.Sh

/- chain by its contracts: Put. -/
namespace Go.Proofs.YtbelcgjbhpjnpaaGreat.Sh
open Go.RowKit Pk Dk Pg
attribute [local go_sem ↓] Go.wp_at_zero Go.wp_at_succ exec_app
def linkL (v : List UInt8) (i : Nat) (next : Int) : List UInt8 := twoL (next + 1).toNat ++ twoL (pieceL v i).length ++ pieceL v i
def St.dropAll (a : St) : List Int → St
 | [] => a
 | p :: l => (a.dropF p).1.dropAll l
theorem St.dropAll_cons (a : St) (p : Int) (l : List Int) : a.dropAll (p :: l) = (a.dropF p).1.dropAll l := rfl
/-- a chain's pages made, the last one first -/
def St.putC (v : List UInt8) : Nat → St → Int → List Int → St × Int × Int
 | 0, a, next, _ => (a, next, 0)
 | i + 1, a, next, made =>
  if (a.newF (linkL v i next)).2.2 ≠ 0 then ((a.newF (linkL v i next)).1.dropAll made, 0, (a.newF (linkL v i next)).2.2)
  else St.putC v i (a.newF (linkL v i next)).1 (a.newF (linkL v i next)).2.1 (made ++ [(a.newF (linkL v i next)).2.1])
def St.cputF (a : St) (v : List UInt8) : St × Int × Int := if 1024 < v.length then (a, 0, 4) else St.putC v (cneedF v.length).toNat a (-1) []
theorem newF_bd (a : St) (p : List UInt8) : 0 ≤ (a.newF p).2.1 ∧ (a.newF p).2.1 ≤ 511 := by
 unfold St.newF
 split
 ·exact ⟨by show (0 : Int) ≤ 0; omega, by show (0 : Int) ≤ 511; omega⟩
 ·split
  ·exact ⟨by show (0 : Int) ≤ 0; omega, by show (0 : Int) ≤ 511; omega⟩
  ·exact ⟨by show (0 : Int) ≤ (a.slot : Nat); omega, by show ((a.slot : Nat) : Int) ≤ 511; omega⟩
set_option maxRecDepth 100000 in
set_option maxHeartbeats 4000000 in
theorem cput_any {w : World} {pb sb : Nat} {F : List Nat} {a : St} {k : Int} (h : AtQ w pb sb F a k) (v : ByteArray) (hv : v.size ≤ 1024) (hk : k ≤ 3999999999999999900) :
  Calls Tryz.prog 64 #[pp pb, .string v] w fun e w' => e = .returned (.tuple #[.int .i64 (a.cputF v.data.toList).2.1, .int .i64 (a.cputF v.data.toList).2.2]) ∧ PostQ w w' pb sb F (a.cputF v.data.toList).1 (k + 20) := by
 have hvl : v.data.toList.length = v.size := by simp
 obtain ⟨R, hR⟩ : ∃ R, a.cputF v.data.toList = R := ⟨_, rfl⟩
 rw [hR]
 unfold St.cputF at hR
 rw [if_neg (by omega), hvl] at hR
 have hn1 : 1 ≤ cneedF v.size ∧ cneedF v.size ≤ 5 := by unfold cneedF; omega
 have hn2 : 228 * (cneedF v.size - 1) ≤ v.size := by unfold cneedF; omega
 have KN := Lib.hid (cneed_any (v.size : Nat) (by omega))
 obtain ⟨m, hm⟩ := Int.eq_ofNat_of_zero_le (show 0 ≤ cneedF v.size by omega)
 rw [hm] at hn1 hn2 KN hR
 rw [show ((m : Nat) : Int).toNat = m by omega] at hR
 have HR := Lib.hid hR
 have O0 := Lib.hid (belowAlloc (Below.refl w.heap.size w) (.cells #[.string v] 9))
 have B0 := Lib.hid (Blk.new w 9 #[.string v])
 have q0 := B0.out.cell_some (i := 0) rfl
 have HQ := Lib.hid (h.below O0.out)
 have HLT := Lib.hid h.lt
 have KNEW := Lib.hid (fun (W : World) (F' : List Nat) (b : St) (j : Int) (hW : AtQ W pb sb F' b j) (s : ByteArray) (hs : s.size ≤ 9223372036854775807) (hj : j ≤ 3999999999999999990) => qnew_any hW s hs hj)
 have KD := Lib.hid (fun (W : World) (F' : List Nat) (b : St) (j : Int) (hW : AtQ W pb sb F' b j) (q : Int) => qdrop_any hW q)
 have KP := Lib.hid (fun (W : World) (hq : W.cell? ⟨w.heap.size, 0, none⟩ = some (.string v)) (i : Nat) (hi : 228 * i ≤ v.size) => piece_any v hv hq i hi)
 have KT := Lib.hid two_any
 have hm1 : IntKind.i64.wrap ((m : Int) - 1) = (m : Int) - 1 := IntWalk.i64_in _ (by omega)
 clear h hR
 unfold pp at *
 go_enter Tryz.func64, Tryz.ntmps64
 go_wp2_with fail
 refine (KN.out _).mono ?_
 rintro e w1 ⟨rfl, rfl⟩
 go_wp2_with fail
 go_loopw [7, 8, 9] (fun mv nv iv wr => ∃ (j : Nat) (b : St) (nx : Nat) (made : List Int) (F' : List Nat), j ≤ m ∧ iv = .int .i64 ((j : Int) - 1) ∧ nv = .int .i64 ((nx : Int) - 1) ∧ nx ≤ 512 ∧ made.length = m - j ∧ Slc wr 3 1 mv made.length (nvs' made) ∧ Hid (St.putC v.data.toList j b ((nx : Int) - 1) made = R) ∧
   Hid (AtQ wr pb sb F' b (k + 4 * ((m : Int) - j)) ∧ Only F w wr ∧ (∀ g ∈ F', g ∈ F ∨ w.heap.size ≤ g) ∧ (∀ g ∈ ownB mv, w.heap.size ≤ g ∧ g ∉ F') ∧ Blk wr w.heap.size 9 #[.string v] ∧ w.heap.size ∉ F')) (fun _ _ iv _ => (intOf iv + 1).toNat)
 case atStart => exact ⟨m, a, 0, [], F, Nat.le_refl _, rfl, rfl, by omega, by simp, Slc.nil _ _ _, HR, Lib.hid ⟨by rw [show k + 4 * ((m : Int) - m) = k by omega]; exact HQ.out, .of_below O0.out, fun g hg => .inl hg, by simp [ownB], B0.out, fun hF => by have := HLT.out _ hF; omega⟩⟩
 case round =>
  obtain ⟨j, b, nx, made, F', hj, rfl, rfl, hnx, hml, S, HW, HA⟩ := hrel
  obtain ⟨VM, vm, rfl⟩ := slc_val S
  by_cases h0 : 0 < j
  ·obtain ⟨i, rfl⟩ : ∃ i, j = i + 1 := ⟨j - 1, by omega⟩
   have hz : ((i + 1 : Nat) : Int) - 1 = (i : Nat) := by omega
   rw [hz]
   have q1 := HA.out.2.2.2.2.1.cell_some (i := 0) rfl
   have hi2 : 228 * i ≤ v.size := by omega
   have K1 := Lib.hid (KP.out wr q1 i hi2)
   have hpl : (pieceL v.data.toList i).length ≤ 228 := by unfold pieceL; rw [List.length_take]; omega
   have HW2 := HW.out
   unfold St.putC at HW2
   have hlk : linkL v.data.toList i ((nx : Int) - 1) = (((⟨(twoL nx).toArray⟩ : ByteArray) ++ ⟨(twoL (pieceL v.data.toList i).length).toArray⟩) ++ ⟨(pieceL v.data.toList i).toArray⟩ : ByteArray).data.toList := by
    unfold linkL; rw [show ((nx : Int) - 1 + 1).toNat = nx by omega]; simp
   rw [hlk] at HW2
   have hps : (⟨(pieceL v.data.toList i).toArray⟩ : ByteArray).size = (pieceL v.data.toList i).length := by show (pieceL v.data.toList i).toArray.size = _; simp
   have hts : ∀ x, (⟨(twoL x).toArray⟩ : ByteArray).size = 2 := fun x => rfl
   have hss : (((⟨(twoL nx).toArray⟩ : ByteArray) ++ ⟨(twoL (pieceL v.data.toList i).length).toArray⟩) ++ ⟨(pieceL v.data.toList i).toArray⟩ : ByteArray).size ≤ 9223372036854775807 := by
    rw [ByteArray.size_append, ByteArray.size_append, hts, hts, hps]; omega
   have K2 := Lib.hid (KT.out nx (by omega))
   have K3 := Lib.hid (KT.out (pieceL v.data.toList i).length (by omega))
   have K4 := Lib.hid (fun (W : World) (hW : AtQ W pb sb F' b (k + 4 * ((m : Int) - (i + 1 : Nat)))) => KNEW.out W F' b _ hW _ hss (by omega))
   have u1 : IntKind.i64.wrap (nx : Int) = (nx : Int) := IntWalk.i64_in _ (by omega)
   have hbd := newF_bd b ((((⟨(twoL nx).toArray⟩ : ByteArray) ++ ⟨(twoL (pieceL v.data.toList i).length).toArray⟩) ++ ⟨(pieceL v.data.toList i).toArray⟩ : ByteArray).data.toList)
   have t1 := hts nx
   have t2 := hts (pieceL v.data.toList i).length
   generalize (⟨(twoL nx).toArray⟩ : ByteArray) = T1 at *
   generalize (⟨(twoL (pieceL v.data.toList i).length).toArray⟩ : ByteArray) = T2 at *
   generalize (⟨(pieceL v.data.toList i).toArray⟩ : ByteArray) = PC at *
   have z1 : ¬ 9223372036854775807 < T1.size + T2.size := by omega
   have z2 : ¬ 9223372036854775807 < (T1 ++ T2).size + PC.size := by rw [ByteArray.size_append]; omega
   clear hlk hts hss
   generalize b.newF (T1 ++ T2 ++ PC).data.toList = D at *
   obtain ⟨D1, D2, D3⟩ := D
   dsimp only at *
   have HS := Lib.hid (show ∀ w4 w5 F5, Below wr.heap.size wr w4 → AtQ w5 pb sb F5 D1 (k + 4 * ((m : Int) - (i + 1 : Nat)) + 4) → Only F' w4 w5 → (∀ g ∈ F5, g ∈ F' ∨ w4.heap.size ≤ g) →
     AtQ w5 pb sb F5 D1 (k + 4 * ((m : Int) - (i + 1 : Nat)) + 4) ∧ Only F w w5 ∧ (∀ g ∈ F5, g ∈ F ∨ w.heap.size ≤ g) ∧ Slc w5 3 1 (.slice VM made.length vm) made.length (nvs' made) ∧ (∀ g ∈ ownB (.slice VM made.length vm), w.heap.size ≤ g ∧ g ∉ F5) ∧ Blk w5 w.heap.size 9 #[.string v] ∧ w.heap.size ∉ F5 from fun w4 w5 F5 hb A5 o5 f5 => by
    obtain ⟨a1, a2, a3, a4, a5, a6⟩ := HA.out
    have s4 := S.below hb
    have b4 := a5.below hb a5.lt
    have hw4 : w.heap.size ≤ w4.heap.size := Nat.le_trans a2.size hb.size
    refine ⟨A5, (a2.trans (.of_below hb)).trans_of o5 (fun g hg hlt => (a3 g hg).elim id (fun h => by omega)), fun g hg => (f5 g hg).elim (a3 g) (fun h => .inr (by omega)), s4.only o5 (fun g hg => (a4 g hg).2), fun g hg => ⟨(a4 g hg).1, fun hF => (f5 g hF).elim (a4 g hg).2 (fun h => by have := s4.lt g hg; omega)⟩, b4.only o5 a6, fun hF => (f5 _ hF).elim a6 (fun h => by have := b4.lt; omega)⟩)
   by_cases hd : D3 = 0
   ·subst hd
    rw [if_neg (by simp)] at HW2
    obtain ⟨d2, rfl⟩ := Int.eq_ofNat_of_zero_le hbd.1
    have HW3 := Lib.hid HW2
    clear HW2
    go_wp2_with fail
    refine K1.out.mono ?_
    rintro e w2 ⟨rfl, rfl⟩
    go_wp2_with fail
    refine (K2.out _).mono ?_
    rintro e w3 ⟨rfl, hb3⟩
    have H3 := Lib.hid hb3
    go_wp2_with fail
    refine (K3.out _).mono ?_
    rintro e w4 ⟨rfl, hb4⟩
    have H4 := Lib.hid (bstep H3.out hb4)
    clear hb3 hb4
    go_wp2_with fail
    refine (K4.out _ (HA.out.1.below H4.out)).mono ?_
    rintro e w5 ⟨rfl, F5, A5, o5, f5⟩
    have H5 := Lib.hid (HS.out w4 w5 F5 H4.out A5 o5 f5)
    clear A5 o5 f5
    obtain ⟨v', w6, ea, S6, ow, fr⟩ := append_one (P := Tryz.prog) H5.out.2.2.2.1 52 52 (.int .i64 0) 8 Tryz.underlying52 info_int2 rfl (.int .i64 (d2 : Nat)) rfl (by unfold maxLen; omega) (by omega)
    obtain ⟨V6, c6, rfl⟩ := slc_val S6
    have H6 := Lib.hid (show Slc w6 3 1 (.slice V6 (made.length + 1) c6) (made ++ [(d2 : Int)]).length (nvs' (made ++ [(d2 : Int)])) ∧ AtQ w6 pb sb F5 D1 (k + 4 * ((m : Int) - i)) ∧ Only F w w6 ∧ (∀ g ∈ F5, g ∈ F ∨ w.heap.size ≤ g) ∧ (∀ g ∈ ownB (.slice V6 (made.length + 1) c6), w.heap.size ≤ g ∧ g ∉ F5) ∧ Blk w6 w.heap.size 9 #[.string v] ∧ w.heap.size ∉ F5 from by
     obtain ⟨a1, a2, a3, a4, a5, a6, a7⟩ := H5.out
     refine ⟨by rw [List.length_append, nvs'_append]; exact S6, (a1.only ow (fun g hF hg => (a5 g hg).2 hF)).le (by omega), a2.trans_of ow (fun g hg hlt => by have := (a5 g hg).1; omega), a3, fun g hg => ?_, a6.only ow (fun hg => slc_ne a4 a6 (by decide) hg), a7⟩
     rcases fr g hg with h | h
     ·exact a5 g h
     ·exact ⟨by have := a2.size; omega, fun hF => by have := a1.lt g hF; omega⟩)
    rw [hml] at ea
    have EA := Lib.hid ea
    clear ea S6 ow fr
    go_wp2_with fail
    rw [EA.out]
    go_wp2_with fail
    go_roundw
    case rel => exact ⟨i, D1, d2 + 1, made ++ [(d2 : Int)], F5, by omega, by go_num, by simp, by omega, by rw [List.length_append, hml, List.length_singleton]; omega, by have := H6.out.1; rw [hml] at this; exact this, by rw [show ((d2 + 1 : Nat) : Int) - 1 = (d2 : Nat) by omega]; exact HW3, Lib.hid ⟨H6.out.2.1, H6.out.2.2.1, H6.out.2.2.2.1, by have := H6.out.2.2.2.2.1; rw [hml] at this; exact this, H6.out.2.2.2.2.2.1, H6.out.2.2.2.2.2.2⟩⟩
    case measure => simp [intOf] <;> omega
   ·rw [if_pos hd] at HW2
    subst HW2
    have hq : (D3 != 0) = true := by rw [bne_iff_ne]; exact hd
    have hq2 : (D3 == 0) = false := by rw [beq_eq_false_iff_ne]; exact hd
    go_wp2_with fail
    refine K1.out.mono ?_
    rintro e w2 ⟨rfl, rfl⟩
    go_wp2_with fail
    refine (K2.out _).mono ?_
    rintro e w3 ⟨rfl, hb3⟩
    have H3 := Lib.hid hb3
    go_wp2_with fail
    refine (K3.out _).mono ?_
    rintro e w4 ⟨rfl, hb4⟩
    have H4 := Lib.hid (bstep H3.out hb4)
    clear hb3 hb4
    go_wp2_with fail
    refine (K4.out _ (HA.out.1.below H4.out)).mono ?_
    rintro e w5 ⟨rfl, F5, A5, o5, f5⟩
    have H5 := Lib.hid (HS.out w4 w5 F5 H4.out A5 o5 f5)
    clear A5 o5 f5
    have hml2 : (made.length : Int) ≤ 5 := by omega
    have HM := Lib.hid hml
    rw [← hml]
    clear hml
    go_wp2_with fail
    go_loopw [52] (fun tv wq => ∃ (t : Nat) (b' : St), t ≤ made.length ∧ tv = .int .i64 t ∧ Hid (b'.dropAll (made.drop t) = D1.dropAll made) ∧ Hid (AtQ wq pb sb F5 b' (k + 4 * ((m : Int) - (i + 1 : Nat)) + 4) ∧ Only F w wq ∧ Slc wq 3 1 (.slice VM made.length vm) made.length (nvs' made))) (fun tv _ => made.length - (intOf tv).toNat)
    case atStart => exact ⟨0, D1, Nat.zero_le _, rfl, Lib.hid rfl, Lib.hid ⟨H5.out.1, H5.out.2.1, H5.out.2.2.2.1⟩⟩
    case round =>
     obtain ⟨t, b', ht, rfl, HT, HB⟩ := hrel
     by_cases hlt : t < made.length
     ·obtain ⟨x, hx⟩ : ∃ x, made[t]? = some x := ⟨made[t], List.getElem?_eq_getElem hlt⟩
      have hdr : made.drop t = x :: made.drop (t + 1) := by
       rw [List.drop_eq_getElem_cons hlt]
       congr 1
       rw [List.getElem?_eq_getElem hlt] at hx
       injection hx
      obtain ⟨g, cp, rest, hv', BB, _⟩ : ∃ g cp rest, (Value.slice VM made.length vm) = .slice (some ⟨g, 0, none⟩) made.length cp ∧ Blk wr g 3 (nvs' made ++ rest).toArray ∧ True := by
       rcases HB.out.2.2.2 with ⟨h1, h2⟩ | ⟨g, cap, rest, h1, h2, _⟩
       ·omega
       ·exact ⟨g, cap, rest, h1, h2, trivial⟩
      injection hv' with e1 e2 e3
      subst e1 e3
      have cx : wr.cell? ⟨g, t, none⟩ = some (.int .i64 x) := BB.cell_some (by
       rw [List.getElem?_toArray, List.getElem?_append_left (by simpa using hlt)]
       simp [nvs', hx])
      have HT2 := HT.out
      rw [hdr, St.dropAll_cons] at HT2
      have HT3 := Lib.hid HT2
      have K6 := Lib.hid (KD.out wr F5 b' _ HB.out.1 x)
      have htI : (t : Int) < (made.length : Int) := by omega
      clear BB hx hdr HT2
      go_wp2_with fail
      refine K6.out.mono ?_
      rintro e w7 ⟨rfl, A7, o7⟩
      have H7 := Lib.hid (show AtQ w7 pb sb F5 (b'.dropF x).1 (k + 4 * ((m : Int) - (i + 1 : Nat)) + 4) ∧ Only F w w7 ∧ Slc w7 3 1 (.slice (some ⟨g, 0, none⟩) made.length vm) made.length (nvs' made) from ⟨A7, HB.out.2.1.trans_of o7 (fun g hg hlt => (H5.out.2.2.1 g hg).elim id (fun h => by omega)), HB.out.2.2.only o7 (fun g' hg => (H5.out.2.2.2.2.1 g' hg).2)⟩)
      clear A7 o7 cx
      go_wp2_with fail
      go_roundw
      case rel => exact ⟨t + 1, (b'.dropF x).1, by omega, by go_num, HT3, H7⟩
      case measure => simp [intOf]; omega
     ·have HT2 := HT.out
      rw [List.drop_eq_nil_of_le (by omega)] at HT2
      have HT2 : b' = D1.dropAll made := HT2
      subst HT2
      obtain rfl : t = made.length := by omega
      go_wp2_with fail
      go_ret2
      exact ⟨by first | rfl | simp, F5, HB.out.1.le (by omega), HB.out.2.1, H5.out.2.2.1⟩
  ·obtain rfl : j = 0 := by omega
   have HW2 := HW.out
   unfold St.putC at HW2
   subst HW2
   go_wp2_with fail
   go_ret2
   exact ⟨by first | rfl | simp, F', HA.out.1.le (by omega), HA.out.2.1, HA.out.2.2.1⟩
end Go.Proofs.YtbelcgjbhpjnpaaGreat.Sh

/- chain's laws: long; the document's pool made. -/
namespace Go.Proofs.YtbelcgjbhpjnpaaGreat.Sh
open Go.RowKit Pk Dk Pg
attribute [local go_sem ↓] Go.wp_at_zero Go.wp_at_succ exec_app
def longL (s : List UInt8) (n : Nat) : List UInt8 := s ++ (List.range (n - s.length)).map UInt8.ofNat
set_option maxRecDepth 100000 in
set_option maxHeartbeats 2000000 in
theorem long_any (s : ByteArray) (n : Nat) (w : World) (hs : s.size ≤ 100000) (hn : n ≤ 100000) :
  Calls Tryz.prog 130 #[.string s, .int .i64 (n : Nat)] w fun e w' => e = .returned (.string ⟨(longL s.data.toList n).toArray⟩) ∧ Below w.heap.size w w' := by
 obtain ⟨cap, w1, e1, S1, hb1⟩ := bytes_of_string (P := Tryz.prog) w 9 141 5 s Tryz.underlying9 Tryz.underlying141 Tryz.underlying5 (by unfold maxLen; omega)
 have E1 := Lib.hid e1
 have hl : s.data.toList.length = s.size := by simp
 obtain ⟨R, hR⟩ : ∃ R, longL s.data.toList n = R := ⟨_, rfl⟩
 rw [hR]
 have HR := Lib.hid hR
 clear e1 hR
 go_enter Tryz.func130, Tryz.ntmps130
 go_wp2_with fail
 rw [E1.out]
 go_wp2_with fail
 go_loopw [5, 6] (fun bv iv wr => ∃ i : Nat, i ≤ n - s.size ∧ iv = .int .i64 i ∧ Slc wr 5 1 bv (s.size + i) (bvs (s.data.toList ++ (List.range i).map UInt8.ofNat)) ∧ Hid (Below w.heap.size w wr) ∧ Hid (∀ x ∈ ownB bv, w.heap.size ≤ x)) (fun _ iv _ => n - s.size - (intOf iv).toNat)
 case atStart => exact ⟨0, Nat.zero_le _, rfl, by simpa using S1, Lib.hid hb1, Lib.hid (by simp [ownB])⟩
 case round =>
  obtain ⟨i, hi, rfl, S, O, F⟩ := hrel
  obtain ⟨A, c, rfl⟩ := slc_val S
  by_cases h : s.size + i < n
  ·obtain ⟨v', w2, ea, S2, ow, fr⟩ := append_one (P := Tryz.prog) S 141 141 (.int .u8 0) 1 Tryz.underlying141 Crc.info_u8 rfl (.int .u8 ((i : Int) % 256)) rfl (by unfold maxLen; omega) (by omega)
   obtain ⟨A2, c2, rfl⟩ := slc_val S2
   have el : bvs (s.data.toList ++ (List.range i).map UInt8.ofNat) ++ [.int .u8 ((i : Int) % 256)] = bvs (s.data.toList ++ (List.range (i + 1)).map UInt8.ofNat) := by
    rw [List.range_succ, List.map_append, ← List.append_assoc, bvs_append _ (List.map _ [i])]
    congr 1
   rw [el] at S2
   have H2 := Lib.hid (show Slc w2 5 1 (.slice A2 (s.size + i + 1) c2) (s.size + (i + 1)) (bvs (s.data.toList ++ (List.range (i + 1)).map UInt8.ofNat)) ∧ Below w.heap.size w w2 ∧ ∀ x ∈ ownB (.slice A2 (s.size + i + 1) c2), w.heap.size ≤ x from ⟨S2, O.out.trans (ow.below_of O.out.size F.out), fun x hx => (fr x hx).elim (F.out x) (fun h => Nat.le_trans O.out.size h)⟩)
   have EA := Lib.hid ea
   clear ea S2 ow fr S el
   go_wp2_with fail
   rw [EA.out]
   go_wp2_with fail
   go_roundw
   case rel => exact ⟨i + 1, by omega, by go_num, H2.out.1, Lib.hid H2.out.2.1, Lib.hid H2.out.2.2⟩
   case measure => simp [intOf]; omega
  ·have hi2 : i = n - s.size := by omega
   have CV := Lib.hid (str_slc (P := Tryz.prog) S 141 9 Tryz.underlying141 Tryz.underlying5 Tryz.underlying9)
   have HR2 := HR.out
   unfold longL at HR2
   rw [hl, ← hi2] at HR2
   rw [HR2] at CV
   clear S HR2 hi2 hl
   go_wp2_with fail
   rw [CV.out]
   go_wp2_with fail
   go_ret
   exact ⟨by first | rfl | simp, O.out⟩
theorem info_rframe : (Tryz.prog.info? 88).map (fun i => (i.zero, i.size, i.bytes)) = some (some (.agg #[.int .i64 0, .string ⟨#[]⟩, .int .i64 0, .bool false, .bool false]), 5, 40) := by kernel_rfl
theorem append_rnil {w : World} {v : Value} {n : Nat} {l : List Fr} (h : Slc w 88 5 v n (frc l)) (hn : n ≤ 1000) :
  ∃ v' w', appRun Tryz.prog 84 84 (w.alloc (.cells #[.int .i64 (-1), .string ⟨#[]⟩, .int .i64 0, .bool false, .bool false] 88)) v (.slice (some ⟨w.heap.size, 0, none⟩) 1 1) = .ok v' w' ∧ Slc w' 88 5 v' (n + 1) (frc (l ++ [Fr.nil])) ∧ Only (ownB v) w w' ∧ (∀ g ∈ ownB v', g ∈ ownB v ∨ w.heap.size ≤ g) := by
 obtain ⟨i0, hi, hz0, hz1, hz2⟩ := info_parts info_rframe
 obtain ⟨v', w', h1, h2, h3, h4⟩ := append_slc (P := Tryz.prog) (h.alloc (.cells #[.int .i64 (-1), .string ⟨#[]⟩, .int .i64 0, .bool false, .bool false] 88)) 84 84 i0 _ 40 Tryz.underlying84 hi hz0 hz1 hz2 rfl (by omega)
  ⟨w.heap.size, 0, none⟩ 1 1 Fr.nil.cs rfl (cells_at (l := Fr.nil.cs) (Blk.new w _ #[.int .i64 (-1), .string ⟨#[]⟩, .int .i64 0, .bool false, .bool false]) 0 _ (by intro j u hu; rw [Nat.zero_add]; exact hu)) (by intro u hu; simp [Fr.cs, Fr.nil] at hu; rcases hu with rfl | rfl | rfl | rfl <;> rfl) (by unfold maxLen; omega) (by omega)
 refine ⟨v', w', h1, ?_, ((Only.refl _ _).alloc _).trans_of h3 (fun x hx _ => hx), fun g hg => (h4 g hg).imp id (fun h => by simp at h; omega)⟩
 rw [frc_append]
 exact h2
set_option maxRecDepth 100000 in
set_option maxHeartbeats 2000000 in
theorem rnew15_any {w : World} (sb k : Nat) (h2 : k ≤ 32) :
  Calls Tryz.prog 110 #[.pointer (some ⟨sb, 0, none⟩), .int .i64 (k : Nat)] w fun e w' => ∃ pb v, e = .returned (.pointer (some ⟨pb, 0, none⟩)) ∧ Blk w' pb 86 #[.pointer (some ⟨sb, 0, none⟩), v, .int .i64 0] ∧ Slc w' 88 5 v k (frc (List.replicate k Fr.nil)) ∧ Below w.heap.size w w' ∧ w.heap.size ≤ pb ∧ ∀ g ∈ ownB v, w.heap.size ≤ g := by
 have O0 := Lib.hid (belowAlloc (Below.refl w.heap.size w) (.cells #[.pointer (some ⟨sb, 0, none⟩), .slice none 0 0, .int .i64 0] 86))
 have B0 := Lib.hid (Blk.new w 86 #[.pointer (some ⟨sb, 0, none⟩), .slice none 0 0, .int .i64 0])
 go_enter Tryz.func110, Tryz.ntmps110
 go_wp2_with fail
 generalize hwa : w.alloc (.cells #[.pointer (some ⟨sb, 0, none⟩), .slice none 0 0, .int .i64 0] 86) = wa at *
 clear hwa
 go_loopw [6] (fun iv wr => ∃ i : Nat, i ≤ k ∧ iv = .int .i64 i ∧ ∃ v, Hid (Blk wr w.heap.size 86 #[.pointer (some ⟨sb, 0, none⟩), v, .int .i64 0]) ∧ Hid (Slc wr 88 5 v i (frc (List.replicate i Fr.nil))) ∧ Hid (Below w.heap.size w wr) ∧ Hid (∀ g ∈ ownB v, w.heap.size ≤ g)) (fun iv _ => k - (intOf iv).toNat)
 case atStart => exact ⟨0, Nat.zero_le _, rfl, .slice none 0 0, B0, Lib.hid (Slc.nil _ _ _), O0, Lib.hid (by simp [ownB])⟩
 case round =>
  obtain ⟨i, hi, rfl, v, BP, SP, OB, FR⟩ := hrel
  by_cases h : i < k
  ·obtain ⟨A, cc, rfl⟩ := slc_val SP.out
   have c0 := BP.out.cell_some (i := 1) rfl
   obtain ⟨v2, w2, ea, S2, ow2, fr2⟩ := append_rnil SP.out (by omega)
   obtain ⟨A2, cc2, rfl⟩ := slc_val S2
   have BP2 := BP.out.only ow2 (slc_ne SP.out BP.out (by decide))
   have q0 := BP2.cell_some (i := 1) rfl
   have q1 := BP2.frozen 1 (by simp)
   have EA := Lib.hid ea
   have H3 := Lib.hid (show Blk (w2.setCell ⟨w.heap.size, 1, none⟩ (.slice A2 (i + 1) cc2)) w.heap.size 86 #[.pointer (some ⟨sb, 0, none⟩), .slice A2 (i + 1) cc2, .int .i64 0] ∧ Slc (w2.setCell ⟨w.heap.size, 1, none⟩ (.slice A2 (i + 1) cc2)) 88 5 (.slice A2 (i + 1) cc2) (i + 1) (frc (List.replicate (i + 1) Fr.nil)) ∧ Below w.heap.size w (w2.setCell ⟨w.heap.size, 1, none⟩ (.slice A2 (i + 1) cc2)) ∧ ∀ g ∈ ownB (.slice A2 (i + 1) cc2), w.heap.size ≤ g from by
    refine ⟨BP2.set_ 1 _, ?_, Below.setCell (OB.out.trans (ow2.below_of OB.out.size FR.out)) (p := ⟨w.heap.size, 1, none⟩) (Nat.le_refl _) _, fun g hg => (fr2 g hg).elim (FR.out g) (fun h => by have := OB.out.size; omega)⟩
    rw [show List.replicate (i + 1) Fr.nil = List.replicate i Fr.nil ++ [Fr.nil] from List.replicate_succ']
    exact S2.only ((Only.refl [w.heap.size] w2).setCell (p := ⟨w.heap.size, 1, none⟩) (by simp) _) (fun g hg hm => by simp at hm; subst hm; exact slc_ne S2 BP2 (by decide) hg))
   clear ea S2 ow2 fr2 BP2
   go_wp2_with fail
   rw [EA.out]
   go_wp2_with fail
   go_roundw
   case rel => exact ⟨i + 1, by omega, by go_num, .slice A2 (i + 1) cc2, Lib.hid H3.out.1, Lib.hid H3.out.2.1, Lib.hid H3.out.2.2.1, Lib.hid H3.out.2.2.2⟩
   case measure => simp [intOf]; omega
  ·have e : i = k := by omega
   subst e
   go_wp2_with fail
   go_ret
   exact ⟨w.heap.size, v, by first | rfl | simp, BP.out, SP.out, OB.out, Nat.le_refl _, FR.out⟩
end Go.Proofs.YtbelcgjbhpjnpaaGreat.Sh
