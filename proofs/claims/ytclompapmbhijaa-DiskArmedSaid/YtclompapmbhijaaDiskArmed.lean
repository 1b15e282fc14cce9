/-
  DiskArmed: for every input the law returns true, and each argument reads behind the call as before. No condition of its own.
-/
import Derived.Test.YtclompapmbhijaaDiskInv
namespace Go.Proofs.Ytclompapmbhijaa.diskArmed
open Go.ChangeShapes Go.WideShapes Go.ChangeAt Go.RowKit
open Go.ChangeMaps (open_string shut_string)
set_option linter.unusedVariables false

open Dk
set_option maxRecDepth 100000 in
set_option maxHeartbeats 4000000 in
theorem walk {H : Type} {enc : TypeId × Value → H} {w : World} {base : Nat} (n : Int) (wn : (Lit.int .u8 n).wf = true) {v : Value} {d : DataW H} {ps : List MemPlace} (hok : Value.okWide Try.prog w .any base 45 v) (h : DataW.Trod enc Try.prog w 0 (fun _ => true) true 45 v d ps) :
    Calls Try.prog 5 #[.int .u8 n, v] w fun e w' => e = .returned (.bool true) ∧ Below w.heap.size w w' := by
  obtain ⟨a, rfl, hC, hm, hsz⟩ := act_of hok h
  have hn := Go.bounds_u8 wn
  clear hok h wn
  obtain ⟨N, rfl⟩ := Int.eq_ofNat_of_zero_le hn.1
  obtain ⟨kind, ix, s, C⟩ := a
  have hlt : ∀ ad, C.A = some ad → 0 < C.m → ad.block < w.heap.size := fun ad e hp => by
    obtain ⟨ad', e', hc⟩ := hC 0 hp
    rw [e] at e'
    injection e' with e'
    subst e'
    exact cell_lt hc
  have HLT := Lib.hid hlt
  have HC := Lib.hid hC
  clear hlt hC
  have B0 := Lib.hid (Blk.new w 45 #[.int .i64 kind, .int .i64 ix, .string s, .slice C.A C.m C.c, .int .i64 C.torn, .int .i64 C.bytes])
  have O0 := Lib.hid ((Below.refl w.heap.size w).alloc (Nat.le_refl _) (.cells #[.int .i64 kind, .int .i64 ix, .string s, .slice C.A C.m C.c, .int .i64 C.torn, .int .i64 C.bytes] 45))
  have hxx := Lib.hid (show w.heap.size < (w.alloc (.cells #[.int .i64 kind, .int .i64 ix, .string s, .slice C.A C.m C.c, .int .i64 C.torn, .int .i64 C.bytes] 45)).heap.size by simp)
  obtain ⟨K, hK⟩ : ∃ K : Nat, ((N : Int) % 6 + 1) = (K : Int) ∧ 1 ≤ K ∧ K ≤ 6 := ⟨N % 6 + 1, by simp, by omega, by omega⟩
  obtain ⟨hK, hK1, hK6⟩ := hK
  unfold Ac.cells
  go_enter Try.func5, Try.ntmps5
  go_wp2_with fail
  generalize w.alloc (.cells #[.int .i64 kind, .int .i64 ix, .string s, .slice C.A C.m C.c, .int .i64 C.torn, .int .i64 C.bytes] 45) = W at *
  refine (new_yes 9 W (by omega) (by omega)).mono ?_
  rintro e w1 ⟨L, rfl, D1, hb1, fr⟩
  have fr := Lib.hid fr
  have hxL := Lib.hid (show ∀ y ∈ L.fp, w.heap.size < y from fun y hy => by have := fr.out y hy; have := hxx.out; omega)
  have O1 := O0.out.trans (hb1.mono O0.out.size)
  have B1 := B0.out.below hb1 B0.out.lt
  have C1 := (HC.out.below O0.out).below hb1
  have KA := Lib.hid (arm_any D1 K)
  have e1 : (D.zero 9).armF K = ({ D.zero 9 with armed := K }, 0) := by unfold D.armF; rw [show (D.zero 9).down = false from rfl, if_neg (by simp), if_neg (by omega)]; rfl
  rw [e1] at KA
  unfold dp at KA ⊢
  clear e1 D1 hb1 B0 O0 HC
  go_wp2_with fail
  refine KA.out.mono ?_
  rintro e w2 ⟨rfl, D2, o2⟩
  have hnx : w.heap.size ∉ L.fp := fun hy => by have := hxL.out _ hy; omega
  have hap : ∀ ad, C.A = some ad → 0 < C.m → ad.block ∉ L.fp := fun ad e hp hy => by have := HLT.out ad e hp; have := hxL.out _ hy; omega
  have hge : ∀ y ∈ L.fp, w.heap.size ≤ y := fun y hy => Nat.le_of_lt (hxL.out y hy)
  have HNX := Lib.hid hnx
  have HAP := Lib.hid hap
  have HGE := Lib.hid hge
  have O2 := O1.trans (o2.below_of O1.size hge)
  have B2 := B1.only o2 hnx
  have C2 := C1.only o2 hap
  clear o2 B1 C1 O1 hnx hap hge KA
  go_wp2_with fail
  refine (awake_any _).mono ?_
  rintro e w3 ⟨rfl, hb3⟩
  have D3 := D2.below hb3
  have B3 := B2.below hb3 B2.lt
  have C3 := C2.below hb3
  have O3 := O2.trans (hb3.mono O2.size)
  have HA := Lib.hid (Armed.start K)
  clear D2 B2 C2 O2 hb3
  generalize ({ D.zero 9 with armed := K } : D) = d0 at *
  go_wp2_with fail
  go_loopw [8] (fun iv wr => ∃ (i : Nat) (d : D), i + 1 ≤ K ∧ iv = .int .i64 ((i + 1 : Nat) : Int) ∧ Hid (Armed d K i) ∧ DiskAt wr L 9 d ∧ Blk wr w.heap.size 45 #[.int .i64 kind, .int .i64 ix, .string s, .slice C.A C.m C.c, .int .i64 C.torn, .int .i64 C.bytes] ∧ C.At wr ∧ Below w.heap.size w wr) (fun iv _ => 7 - (intOf iv).toNat)
  case atStart => exact ⟨0, d0, by omega, rfl, HA, D3, B3, C3, O3⟩
  case round =>
    obtain ⟨i, d, hi, rfl, HD, D4, B4, C4, O4⟩ := hrel
    clear D3 B3 C3 O3
    by_cases hik : i + 1 < K
    · have KW := Lib.hid (write_any D4 ((i + 1 : Nat) : Int) ⟨#[120]⟩ (by rw [HD.out.calls]; omega) (by rw [HD.out.armed]; omega))
      have hst := HD.out.step hik hK6 (⟨#[120]⟩ : ByteArray).data.toList
      rw [hst.1] at KW
      have HS := Lib.hid hst.2
      clear hst
      generalize (d.writeF 9 ((i + 1 : Nat) : Int) (⟨#[120]⟩ : ByteArray).data.toList).1 = d' at *
      unfold dp at KW
      go_wp2_with fail
      refine KW.out.mono ?_
      rintro e w5 ⟨rfl, D5, o5⟩
      have B5 := B4.only o5 HNX.out
      have C5 := C4.only o5 HAP.out
      have O5 := O4.trans (o5.below_of O4.size HGE.out)
      have KD := Lib.hid (down_any D5)
      rw [HS.out.up] at KD
      unfold dp at KD
      clear o5 D4 B4 C4 O4 KW
      go_wp2_with fail
      refine KD.out.mono ?_
      rintro e w6 ⟨rfl, rfl⟩
      go_wp2_with fail
      go_roundw
      case rel => exact ⟨i + 1, d', by omega, by go_num, HS, D5, B5, C5, O5⟩
      case measure => simp [intOf]; omega
    · have hiK : i + 1 = K := by omega
      have KS := Lib.hid (sync_any D4 (by rw [HD.out.calls]; omega) (by rw [HD.out.armed]; omega))
      have hlast := HD.out.last hiK
      rw [hlast] at KS
      have hcnt := HD.out.cnt
      unfold dp at KS
      have HIK := Lib.hid hiK
      have HCN := Lib.hid hcnt
      clear hiK hlast hcnt
      go_wp2_with fail
      refine KS.out.mono ?_
      rintro e w5 ⟨rfl, D5, o5⟩
      have B5 := B4.only o5 HNX.out
      have C5 := C4.only o5 HAP.out
      have O5 := O4.trans (o5.below_of O4.size HGE.out)
      have KD := Lib.hid (down_any D5)
      have KL := Lib.hid (loose_any D5)
      rw [show ({ d with calls := (K : Int), armed := 0, down := true } : D).down = true from rfl] at KD
      rw [show ({ d with calls := (K : Int), armed := 0, down := true } : D).loose.count true = i from HCN.out] at KL
      have KR := Lib.hid (read_any D5 0)
      rw [show ({ d with calls := (K : Int), armed := 0, down := true } : D).readF 9 0 = ([], 13) from rfl] at KR
      have KW := Lib.hid (write_any D5 ix s (by show (K : Int) ≤ _; omega) (by show (0 : Int) ≤ _; omega))
      rw [show ({ d with calls := (K : Int), armed := 0, down := true } : D).writeF 9 ix s.data.toList = ({ d with calls := (K : Int), armed := 0, down := true }, 13) from rfl] at KW
      have c1 := B5.cell_some (i := 1) rfl
      have c2 := B5.cell_some (i := 2) rfl
      have hiv : (i : Int) = (K : Int) - 1 := by have := HIK.out; omega
      unfold dp at KD KL KR KW
      rw [hiv] at KL
      clear hiv o5 D4 B4 C4 O4 KS D5
      go_wp2_with fail
      refine KD.out.mono ?_
      rintro e w6 ⟨rfl, rfl⟩
      go_wp2_with fail
      refine KL.out.mono ?_
      rintro e w6 ⟨rfl, rfl⟩
      go_wp2_with fail
      refine KR.out.mono ?_
      rintro e w6 ⟨rfl, rfl⟩
      go_wp2_with fail
      refine KW.out.mono ?_
      rintro e w6 ⟨rfl, D6, o6⟩
      have B6 := B5.only o6 HNX.out
      have C6 := C5.only o6 HAP.out
      have O6 := O5.trans (o6.below_of O5.size HGE.out)
      have KS := Lib.hid (sync_any D6 (by show (K : Int) ≤ _; omega) (by show (0 : Int) ≤ _; omega))
      rw [show ({ d with calls := (K : Int), armed := 0, down := true } : D).syncF = ({ d with calls := (K : Int), armed := 0, down := true }, 13) from rfl] at KS
      unfold dp at KS
      clear o6 B5 C5 O5 KW KR KL KD c1 c2 D6
      go_wp2_with fail
      refine KS.out.mono ?_
      rintro e w7 ⟨rfl, D7, o7⟩
      have B7 := B6.only o7 HNX.out
      have C7 := C6.only o7 HAP.out
      have O7 := O6.trans (o7.below_of O6.size HGE.out)
      have KA := Lib.hid (arm_any D7 ix)
      rw [show ({ d with calls := (K : Int), armed := 0, down := true } : D).armF ix = ({ d with calls := (K : Int), armed := 0, down := true }, 13) from rfl] at KA
      have c1 := B7.cell_some (i := 1) rfl
      unfold dp at KA
      clear o7 B6 C6 O6 KS D7
      go_wp2_with fail
      refine KA.out.mono ?_
      rintro e w8 ⟨rfl, D8, o8⟩
      have B8 := B7.only o8 HNX.out
      have C8 := C7.only o8 HAP.out
      have O8 := O7.trans (o8.below_of O7.size HGE.out)
      have KC := Lib.hid (calls_any D8)
      rw [show ({ d with calls := (K : Int), armed := 0, down := true } : D).calls = (K : Int) from rfl] at KC
      have KX := Lib.hid (crash_any D8 C C8 hm HAP.out)
      have HL := Lib.hid (crash_loose C _ D8.ok)
      have c3 := B8.cell_some (i := 3) rfl
      have c4 := B8.cell_some (i := 4) rfl
      have c5 := B8.cell_some (i := 5) rfl
      unfold dp Cr.val at KX
      unfold dp at KC
      generalize ({ d with calls := (K : Int), armed := 0, down := true } : D) = dd at *
      clear o8 B7 C7 O7 KA D8 c1
      go_wp2_with fail
      refine KC.out.mono ?_
      rintro e w9 ⟨rfl, rfl⟩
      go_wp2_with fail
      refine KX.out.mono ?_
      rintro e w9 ⟨rfl, D9, o9⟩
      have O9 := O8.trans (o9.below_of O8.size HGE.out)
      have KD := Lib.hid (down_any D9)
      rw [show (dd.crashF C 9).down = false from rfl] at KD
      have KL := Lib.hid (loose_any D9)
      rw [HL.out, count_false] at KL
      unfold dp at KD KL
      clear o9 O8 KC KX D9 c3 c4 c5 B8 C8
      go_wp2_with fail
      refine KD.out.mono ?_
      rintro e w10 ⟨rfl, rfl⟩
      go_wp2_with fail
      refine KL.out.mono ?_
      rintro e w10 ⟨rfl, rfl⟩
      go_wp2_with fail
      go_ret
      exact ⟨by first | rfl | simp, O9⟩

set_option maxRecDepth 100000 in
theorem contract (H : Type) (enc : TypeId × Value → H) (W : World) (base : Nat) (args : Array Value) (ds gs : List (DataW H)) (before : List MemPlace)
    (hval0 : ∀ (j : Nat) t v, Try.f5.params[j]? = some t → args[j]? = some v → Value.okWide Try.prog W .any base t v)
    (hW : DataW.Whole enc Try.prog Try.f5.params.toList Rows.diskArmedSpec.vars false W args.toList ds gs before) :
    Calls Try.prog 5 args W fun e W' => ∃ v, e = .returned v ∧ Rows.diskArmedSpec.post enc Try.prog Try.f5 false true false false W args v W' := by
  have hval := hval0
  have hW' := hW
  obtain ⟨p, q, hA0, hV, rfl, hfz, hnd⟩ := hW
  have hA : DataW.TrodAll enc Try.prog W 0 (fun _ => true) true Try.f5.params.toList args.toList ds p := hA0
  have hlt : ∀ x ∈ p, x.block < W.heap.size := fun x hx => by simpa using hW'.lt x (List.mem_append_left _ hx)
  rw [Try.params5] at hA hval
  obtain ⟨v0, vs0, d0, ds0, p0, q0, hargs, rfl, rfl, h0, r0⟩ := trodAll_cons hA
  obtain ⟨v1, vs1, d1, ds1, p1, q1, rfl, rfl, rfl, h1, r1⟩ := trodAll_cons r0
  obtain ⟨rfl, rfl, rfl⟩ := trodAll_nil r1
  obtain rfl : args = #[v0, v1] := by cases args; simp_all
  obtain ⟨rfl, rfl⟩ := trodVars_none hV
  obtain ⟨a0, rfl, rfl, rfl, w0⟩ := open_int Try.underlying5 (hval 0 5 v0 rfl rfl) h0
  refine (walk a0 w0 (hval 1 45 v1 rfl rfl) h1 ).mono fun e W1 ⟨he, hb⟩ => ?_
  subst he
  exact ⟨_, rfl, law_post laidOut hW' rfl (by kernel_rfl) (by rfl) Try.underlying4 rfl hb⟩

set_option maxRecDepth 100000 in
theorem lifted (os : Os) (started : os.Started) (H : Type) (enc : TypeId × Value → H) :
    ReturnsInHanded {} Try.checked os 5 .any (Rows.diskArmedSpec.pre6 enc Try.prog Try.f5 Rows.diskArmedRow.domain false) (Rows.diskArmedSpec.post enc Try.prog Try.f5 false true false false) := by
  refine returnsInHanded_of_change (C := Try.checked) own started (by kernel_rfl) Try.func5
    (ChangeSpec.witness6 (enc := enc) (C := Try.checked) false ⟨#[], #[.int .u8 0, .agg #[.int .i64 0, .int .i64 0, .string .empty, .slice none 0 0, .int .i64 0, .int .i64 0]], []⟩ 8 (by kernel_rfl) (by kernel_rfl) (by kernel_rfl) (by kernel_rfl)) ?_
  intro W base args ds gs before hval0 hW hcnd _
  exact contract H enc W base args ds gs before hval0 hW

theorem proved : Rows.DiskArmedSaid :=
  OpenClaim.holds_of_wide 5 Try.f5 rfl rfl rfl rfl rfl rfl rfl ⟨rfl, rfl, rfl, rfl, rfl⟩ rfl rfl rfl rfl rfl (by kernel_rfl) Try.func5 (by kernel_rfl)
    (of_decide_eq_true (by kernel_rfl)) (by unfold Func.isWrapper; first | (rw [if_pos (by decide +kernel)]; kernel_rfl) | (rw [if_neg (by decide +kernel)]; exact ⟨rfl, rfl⟩))
    (fun os started H enc _ => lifted os started H enc)
#print axioms proved
end Go.Proofs.Ytclompapmbhijaa.diskArmed
