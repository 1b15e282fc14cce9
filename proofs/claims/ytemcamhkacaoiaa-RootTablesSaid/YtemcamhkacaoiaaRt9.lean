/- roots: what comes in, and a torn one. -/
import Derived.Test.YtemcamhkacaoiaaRt8
import Derived.Deep.Grids
import Derived.Deep.Slices
import Derived.Deep.Cut
import Derived.Deep.CutRange
namespace Go.Proofs.Ytemcamhkacaoiaa.Rt
open Go.RowKit Pk Go.Deep Go.ChangeShapes Go.WideShapes
theorem addr_zero (a : Addr) : a.add 0 = a := by simp [Addr.add]
/-- a root by value -/
theorem root_of {H : Type} {enc : TypeId × Value → H} {w : World} {base : Nat} {v : Value} {d : DataW H} {ps : List MemPlace} (hok : Value.okWide Try.prog w .any base 24 v) (h : DataW.Trod enc Try.prog w 0 (fun _ => true) true 24 v d ps) :
    ∃ (ep lg : Int) (A : Option Addr) (n c : Nat) (l : List Int), v = rootV ep lg A n c ∧ n ≤ c ∧ n ≤ maxLen ∧ IntsAt w A n l := by
  obtain ⟨cs, rfl, hsz⟩ := okWide_struct Try.underlying24 hok
  obtain ⟨fuel, hf⟩ := h
  obtain ⟨xs, k, _, _, hl, hxl, hff⟩ := DataW.trod_struct Try.underlying24 (cs := cs.toList) (by simpa [Value.cells] using hf)
  have hcl : Try.prog.cellsOf 24 = 3 := by kernel_rfl
  obtain ⟨q0, q1, q2, hq⟩ : ∃ a b c, cs.toList = [a, b, c] := by
    match cs.toList, hl.trans hcl with
    | [a, b, c], _ => exact ⟨a, b, c, rfl⟩
  rw [hq] at hff
  obtain ⟨y0, y1, y2, rfl⟩ : ∃ y0 y1 y2, xs = [y0, y1, y2] := by
    match xs, hxl with
    | [a, b, c], _ => exact ⟨a, b, c, rfl⟩
  have g0 := hff 0 _ rfl
  have g1 := hff 1 _ rfl
  have g2 := hff 2 _ rfl
  obtain ⟨r0, hr0, _⟩ := DataW.trod_int (x := y0) Try.underlying3 (cs := [q0]) g0
  obtain ⟨r1, hr1, _⟩ := DataW.trod_int (x := y1) Try.underlying3 (cs := [q1]) g1
  simp only [List.cons.injEq, and_true] at hr0 hr1
  subst hr0 hr1
  have hce : Try.prog.cellsOf 3 = 1 := by kernel_rfl
  have hcs : cs = #[.int .i64 r0, .int .i64 r1, q2] := Array.toList_inj.1 hq
  rcases open_slice (x := y2) (cs := [q2]) Try.underlying22 g2 with ⟨hc0, _⟩ | ⟨a, len, cap, m, n', D, Pl, hc0, _, hl2, hm2, hmm, _, hall⟩
  · simp only [List.cons.injEq, and_true] at hc0
    subst hc0
    exact ⟨r0, r1, none, 0, 0, [], by rw [hcs]; rfl, Nat.le_refl _, Nat.zero_le _, ⟨rfl, fun k x hx => by simp at hx⟩⟩
  · simp only [List.cons.injEq, and_true] at hc0
    subst hc0
    simp at hmm
    have each : ∀ k, k < len → ∃ x : Int, w.cell? (a.add k) = some (.int .i64 x) := by
      intro k hk
      obtain ⟨cs', hcs', htr⟩ := hall k (by omega)
      rw [hce, Nat.mul_one] at hcs'
      obtain ⟨hlen, _, hget⟩ := World.cells?_some hcs'
      obtain ⟨r, hr, _⟩ := DataW.trod_int Try.underlying3 htr
      subst hr
      have g := hget 0 (by omega)
      rw [addr_zero] at g
      exact ⟨r, g⟩
    obtain ⟨F, hF⟩ := choose_lt (p := fun k x => w.cell? (a.add k) = some (.int .i64 x)) each
    refine ⟨r0, r1, some a, len, cap, (List.range len).map F, by rw [hcs]; rfl, hl2, by omega, by simp, ?_⟩
    intro k x hx
    rw [List.getElem?_map] at hx
    have hk : k < len := by
      by_cases hk : k < len
      · exact hk
      · rw [List.getElem?_eq_none (by simp; omega)] at hx; simp at hx
    rw [List.getElem?_range hk] at hx
    simp only [Option.map_some, Option.some.injEq] at hx
    subst hx
    exact ⟨a, rfl, hF k hk⟩
theorem nat_parts {ep lg : Int} {l : List Int} (h : rightR ep lg l) : ∃ (lgN : Nat) (p : List Nat), lg = (lgN : Int) ∧ l = natI p := by
  obtain ⟨m, hm⟩ := Int.eq_ofNat_of_zero_le h.2.2.1
  refine ⟨m, l.map Int.toNat, hm, ?_⟩
  unfold natI
  rw [List.map_map]
  apply List.ext_getElem (by simp)
  intro i h1 h2
  have := (h.2.2.2.2.2 i l[i] (List.getElem?_eq_getElem h1)).1
  simp
  omega
theorem packI_inj {a b : Int} (ha : 1 ≤ a ∧ a ≤ 1099511627776) (hb : 1 ≤ b ∧ b ≤ 1099511627776) (h : packI a = packI b) : a = b := by
  have h1 := packI_back a (by omega) ha.2
  have h2 := packI_back b (by omega) hb.2
  rw [h] at h1
  omega
/-- a torn root -/
theorem torn {ea eb : Int} {la lb : Nat} {pa pb : List Nat} (ha : rightR ea la (natI pa)) (hb : rightR eb lb (natI pb)) (hne : ea ≠ eb) (k : Nat) (hg : goodR ((rootL eb lb pb).take k ++ (rootL ea la pa).drop k)) :
    (rootL eb lb pb).take k ++ (rootL ea la pa).drop k = rootL ea la pa ∨ (rootL eb lb pb).take k ++ (rootL ea la pa).drop k = rootL eb lb pb := by
  have a5 : pa.length ≤ 5 := by have := rightR_len ha; simpa [natI] using this
  have b5 : pb.length ≤ 5 := by have := rightR_len hb; simpa [natI] using this
  have sl := rootL_length ea la pa a5
  have tl := rootL_length eb lb pb b5
  have s8 := rootL_take ea la pa
  have t8 := rootL_take eb lb pb
  have s56 := rootL_last ea la pa a5
  have t56 := rootL_last eb lb pb b5
  have hgc := (good_crc hg).2
  generalize rootL ea la pa = s at *
  generalize rootL eb lb pb = t at *
  have hul : (t.take k ++ s.drop k).length = 64 ∨ 64 < k := by simp; omega
  by_cases h1 : k ≤ 8
  · left
    have e1 : (t.take k ++ s.drop k).drop 56 = s.drop 56 := by
      rw [List.drop_append, List.drop_of_length_le (by rw [List.length_take]; omega), List.nil_append, List.length_take, List.drop_drop]
      congr 1; omega
    have e2 : (t.take k ++ s.drop k).drop 8 = s.drop 8 := by
      rw [List.drop_append, List.drop_of_length_le (by rw [List.length_take]; omega), List.nil_append, List.length_take, List.drop_drop]
      congr 1; omega
    rw [e1, s56, ← s8] at hgc
    rw [← List.take_append_drop 8 (t.take k ++ s.drop k), hgc, e2, List.take_append_drop]
  · by_cases h2 : k ≤ 56
    · exfalso
      have e1 : (t.take k ++ s.drop k).drop 56 = s.drop 56 := by
        rw [List.drop_append, List.drop_of_length_le (by rw [List.length_take]; omega), List.nil_append, List.length_take, List.drop_drop]
        congr 1; omega
      have e2 : (t.take k ++ s.drop k).take 8 = t.take 8 := by
        rw [List.take_append_of_le_length (by rw [List.length_take]; omega), List.take_take]
        congr 1; omega
      rw [e1, e2, s56, t8] at hgc
      exact hne (packI_inj ⟨hb.1, hb.2.1⟩ ⟨ha.1, ha.2.1⟩ hgc).symm
    · right
      have e2 : (t.take k ++ s.drop k).take 8 = t.take 8 := by
        rw [List.take_append_of_le_length (by rw [List.length_take]; omega), List.take_take]
        congr 1; omega
      have e3 : (t.take k ++ s.drop k).take 56 = t.take 56 := by
        rw [List.take_append_of_le_length (by rw [List.length_take]; omega), List.take_take]
        congr 1; omega
      rw [e2, t8, ← t56] at hgc
      rw [← List.take_append_drop 56 (t.take k ++ s.drop k), ← hgc, e3, List.take_append_drop]
end Go.Proofs.Ytemcamhkacaoiaa.Rt
