/-
  CrcBits: for every input the law returns true, and each argument reads behind the call as before. No condition of its own.
-/
import Derived.Test.YtiiknbnaplpidaaCrcBitsMath
namespace Go.Proofs.Ytiiknbnaplpidaa.crcBits
open Go.ChangeShapes Go.WideShapes Go.ChangeAt Go.RowKit
open Go.ChangeMaps (open_string shut_string)
set_option linter.unusedVariables false

open Crc
set_option maxHeartbeats 400000 in
theorem walk (s : ByteArray) (hs : s.size ≤ maxLen) (a1 : Int) (w1 : (Lit.int .u16 a1).wf = true) (w : World) :
    Calls Try.prog 7 #[.string s, .int .u16 a1] w fun e w' => e = .returned (.bool true) ∧ Below w.heap.size w w' := by
  have ha := bounds_u16 w1
  obtain ⟨at_, rfl⟩ := Int.eq_ofNat_of_zero_le ha.1
  clear w1
  go_enter Try.func7, Try.ntmps7
  go_wp2_with fail
  refine (few_any s _ hs).mono ?_
  rintro e w1 ⟨t, ht, rfl, rfl⟩
  go_wp2_with fail
  refine (lay_any t _ (by omega)).mono ?_
  rintro e w2 ⟨rfl, hb2⟩
  go_wp2_with fail
  have hsz : (⟨(layF t.data.toList).toArray⟩ : ByteArray).size = 4 + t.size := by
    show (layF t.data.toList).toArray.size = _
    rw [List.size_toArray, lay_length]; simp
  obtain ⟨cap, w3, e3, S3, hb3⟩ := bytes_of_string (P := Try.prog) w2 9 34 5 ⟨(layF t.data.toList).toArray⟩ Try.underlying9 Try.underlying34 Try.underlying5 (by rw [hsz]; unfold maxLen; omega)
  rw [e3, hsz]
  rw [hsz] at S3
  clear e3 hsz
  go_wp2_with fail
  obtain ⟨K, hK⟩ : ∃ K : Nat, ((at_ : Int) % (8 * (4 + (t.size : Int)))) = (K : Int) := ⟨at_ % (8 * (4 + t.size)), by simp⟩
  have hK8 : K < 8 * (4 + t.size) := by
    have := Int.emod_lt_of_pos (at_ : Int) (show 0 < 8 * (4 + (t.size : Int)) by omega)
    omega
  rw [hK]
  clear hK
  obtain ⟨rest, B3, hrest, -, -⟩ := S3.blk
  have hcap : 4 + t.size ≤ cap := by rw [bvs_length, lay_length] at hrest; simp at hrest; omega
  clear hrest
  have hi : K / 8 < (layF t.data.toList).length := by rw [lay_length]; simp; omega
  have hcell : w3.cell? ⟨w2.heap.size, K / 8, none⟩ = some (.int .u8 ((layF t.data.toList)[K / 8].toNat : Int)) := by
    refine B3.cell_some ?_
    simp [bvs, bv, List.getElem?_append_left, hi]
  have hfr := B3.frozen (K / 8) (by simp; omega)
  generalize hx : (layF t.data.toList)[K / 8] = x at *
  have Hx := Lib.hid hx
  clear hx
  go_region
  all_goals go_wp2_with fail
  obtain ⟨d, hd, hdx⟩ := turned x (K % 8) (by omega)
  rw [hd]
  clear hd
  have hne : d ≠ (layF t.data.toList)[K / 8] := by rw [Hx.out]; exact hdx
  have HC := Lib.hid (turned_low t.data.toList (K / 8) d hi hne)
  have HS := Lib.hid (turned_sum t.data.toList (K / 8) d hi hne)
  have B4 := (B3.set_ (K / 8) (.int .u8 (d.toNat : Int))).drew
  have ebl : ((bvs (layF t.data.toList) ++ rest).toArray.setIfInBounds (K / 8) (.int .u8 (d.toNat : Int))) = (bvs ((layF t.data.toList).set (K / 8) d) ++ rest).toArray := by
    rw [List.setIfInBounds_toArray, List.set_append_left _ _ (by simpa using hi)]
    simp [bvs, List.map_set, bv]
  rw [ebl] at B4
  have O4 : Below w.heap.size w (w3.setCell ⟨w2.heap.size, K / 8, none⟩ (.int .u8 (d.toNat : Int))).drew := ((bstep hb2 hb3).setCell hb2.size _).drew
  generalize (w3.setCell ⟨w2.heap.size, K / 8, none⟩ (.int .u8 (d.toNat : Int))).drew = W at B4 O4 ⊢
  have hL' : ((layF t.data.toList).set (K / 8) d).length = 4 + t.size := by rw [List.length_set, lay_length]; simp
  have HL := Lib.hid hL'
  rw [run_string_of (P := Try.prog) W 34 9 5 Try.underlying34 Try.underlying5 Try.underlying9 ⟨w2.heap.size, 0, none⟩ (4 + t.size) cap ((layF t.data.toList).set (K / 8) d) hL' (cells_at B4 0 _ (by intro j v hv; rw [Nat.zero_add]; exact (List.getElem?_append_left (List.getElem?_eq_some_iff.1 hv).1).trans hv))]
  generalize hLg : (layF t.data.toList).set (K / 8) d = L at *
  clear hLg hL' hcell hfr B3 S3 hne hdx ebl Hx hi
  have hLs : (⟨L.toArray⟩ : ByteArray).size = 4 + t.size := HL.out
  have HLs := Lib.hid hLs
  clear hLs
  by_cases h32 : K < 32
  · go_wp2_with fail
    refine (cut_corrupt ⟨L.toArray⟩ _ (by rw [HLs.out]; omega) (by rw [HLs.out]; unfold maxLen; omega) HC.out).mono ?_
    rintro e w5 ⟨rfl, hb5⟩
    go_wp2_with fail
    refine (awake_any _).mono ?_
    rintro e w6 ⟨rfl, hb6⟩
    go_wp2_with fail
    go_ret
    exact ⟨rfl, bstep (bstep O4 hb5) hb6⟩
  · have hc4 : ¬ cap = 4 := by omega
    have hts : 0 < t.size := by omega
    go_wp2_with fail
    refine (cut_corrupt ⟨L.toArray⟩ _ (by rw [HLs.out]; omega) (by rw [HLs.out]; unfold maxLen; omega) HC.out).mono ?_
    rintro e w5 ⟨rfl, hb5⟩
    go_wp2_with fail
    refine (awake_any _).mono ?_
    rintro e w6 ⟨rfl, hb6⟩
    have O6 := bstep (bstep O4 hb5) hb6
    have B6 := (B4.below hb5 B4.lt).below hb6 (Nat.lt_of_lt_of_le B4.lt hb5.size)
    clear B4 O4 hb5
    go_wp2_with fail
    have es : ∀ n, n = t.size → (convert 34 9 (.slice (some ⟨w2.heap.size, 4, none⟩) n (cap - 4))).run Try.prog w6 = .ok (.string ⟨(L.drop 4).toArray⟩) w6 := by
      intro n hn
      refine run_string_of (P := Try.prog) w6 34 9 5 Try.underlying34 Try.underlying5 Try.underlying9 ⟨w2.heap.size, 4, none⟩ n (cap - 4) (L.drop 4) (by rw [List.length_drop, HL.out]; omega) (cells_at B6 4 _ ?_)
      intro j v hv
      rw [bvs_get, List.getElem?_drop] at hv
      have hj : 4 + j < L.length := by
        rcases Nat.lt_or_ge (4 + j) L.length with h | h
        · exact h
        · rw [List.getElem?_eq_none h] at hv; simp at hv
      rw [List.getElem?_append_left (by simpa using hj), bvs_get]; exact hv
    rw [es _ (by omega)]
    clear es
    have hl4 : (⟨(L.drop 4).toArray⟩ : ByteArray).size ≤ maxLen := by
      show (L.drop 4).length ≤ _
      rw [List.length_drop, HL.out]; unfold maxLen; omega
    have HL4 := Lib.hid hl4
    clear hl4
    have hns : ((sumF (L.drop 4) : Int) != (sumF t.data.toList : Int)) = true := by
      have := HS.out (by omega)
      simp only [bne_iff_ne, ne_eq]; omega
    go_wp2_with fail
    refine (sum_any ⟨(L.drop 4).toArray⟩ _ HL4.out).mono ?_
    rintro e w7 ⟨rfl, hb7⟩
    go_wp2_with fail
    refine (sum_any t _ (by unfold maxLen; omega)).mono ?_
    rintro e w8 ⟨rfl, hb8⟩
    go_wp2_with fail
    go_ret
    exact ⟨rfl, bstep (bstep O6 hb7) hb8⟩

set_option maxRecDepth 100000 in
theorem contract (H : Type) (enc : TypeId × Value → H) (W : World) (base : Nat) (args : Array Value) (ds gs : List (DataW H)) (before : List MemPlace)
    (hval0 : ∀ (j : Nat) t v, Try.f7.params[j]? = some t → args[j]? = some v → Value.okWide Try.prog W .any base t v)
    (hW : DataW.Whole enc Try.prog Try.f7.params.toList Rows.crcBitsSpec.vars false W args.toList ds gs before) :
    Calls Try.prog 7 args W fun e W' => ∃ v, e = .returned v ∧ Rows.crcBitsSpec.post enc Try.prog Try.f7 false true false false W args v W' := by
  have hval := hval0
  have hW' := hW
  obtain ⟨p, q, hA0, hV, rfl, hfz, hnd⟩ := hW
  have hA : DataW.TrodAll enc Try.prog W 0 (fun _ => true) true Try.f7.params.toList args.toList ds p := hA0
  have hlt : ∀ x ∈ p, x.block < W.heap.size := fun x hx => by simpa using hW'.lt x (List.mem_append_left _ hx)
  rw [Try.params7] at hA hval
  obtain ⟨v0, vs0, d0, ds0, p0, q0, hargs, rfl, rfl, h0, r0⟩ := trodAll_cons hA
  obtain ⟨v1, vs1, d1, ds1, p1, q1, rfl, rfl, rfl, h1, r1⟩ := trodAll_cons r0
  obtain ⟨rfl, rfl, rfl⟩ := trodAll_nil r1
  obtain rfl : args = #[v0, v1] := by cases args; simp_all
  obtain ⟨rfl, rfl⟩ := trodVars_none hV
  obtain ⟨s0, rfl, rfl, rfl, hs0⟩ := open_string Try.underlying9 (hval 0 9 v0 rfl rfl) h0
  obtain ⟨a1, rfl, rfl, rfl, w1⟩ := open_int Try.underlying33 (hval 1 33 v1 rfl rfl) h1
  refine (walk s0 hs0 a1 w1 W).mono fun e W1 ⟨he, hb⟩ => ?_
  subst he
  exact ⟨_, rfl, law_post laidOut hW' rfl (by kernel_rfl) (by rfl) Try.underlying4 rfl hb⟩

set_option maxRecDepth 100000 in
theorem lifted (os : Os) (started : os.Started) (H : Type) (enc : TypeId × Value → H) :
    ReturnsInHanded {} Try.checked os 7 .any (Rows.crcBitsSpec.pre6 enc Try.prog Try.f7 Rows.crcBitsRow.domain false) (Rows.crcBitsSpec.post enc Try.prog Try.f7 false true false false) := by
  refine returnsInHanded_of_change (C := Try.checked) own started (by kernel_rfl) Try.func7
    (ChangeSpec.witness6 (enc := enc) (C := Try.checked) false ⟨#[], #[.string .empty, .int .u16 0], []⟩ 8 (by kernel_rfl) (by kernel_rfl) (by kernel_rfl) (by kernel_rfl)) ?_
  intro W base args ds gs before hval0 hW hcnd _
  exact contract H enc W base args ds gs before hval0 hW

theorem proved : Rows.CrcBitsSaid :=
  OpenClaim.holds_of_wide 7 Try.f7 rfl rfl rfl rfl rfl rfl rfl ⟨rfl, rfl, rfl, rfl, rfl⟩ rfl rfl rfl rfl rfl (by kernel_rfl) Try.func7 (by kernel_rfl)
    (of_decide_eq_true (by kernel_rfl)) (by unfold Func.isWrapper; first | (rw [if_pos (by decide +kernel)]; kernel_rfl) | (rw [if_neg (by decide +kernel)]; exact ⟨rfl, rfl⟩))
    (fun os started H enc _ => lifted os started H enc)
#print axioms proved
end Go.Proofs.Ytiiknbnaplpidaa.crcBits
