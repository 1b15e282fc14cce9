/- nodes: records there and back. -/
import Derived.Test.YticehnnbjbliaabNd16
namespace Go.Proofs.Yticehnnbjbliaab.Nd
open Go.RowKit Sl
theorem recB_list (e : E) : (recB e).data.toList = recE e := by simp [recB]
theorem recE_drop (e : E) : (recE e).drop 1 = e.key.data.toList ++ (two8 (e.far + 1).toNat ++ e.val.data.toList) := rfl
theorem entryK_rec (e : E) (h : e.key.size ≤ 32) : entryK (recB e) = e.key.size := by
  unfold entryK
  rw [recB_list]
  show (UInt8.ofNat e.key.size).toNat = e.key.size
  rw [UInt8.toNat_ofNat']
  omega
theorem recB_size (e : E) : (recB e).size = 3 + e.key.size + e.val.size := by
  unfold recB
  rw [Sl.size_of_list, recE_length]
theorem entryOk_rec (e : E) (h : e.key.size ≤ 32) : entryOk (recB e) := by
  unfold entryOk
  rw [entryK_rec e h, recB_size]; omega
theorem keyL (e : E) : e.key.data.toList.length = e.key.size := by simp
theorem entryE_rec (e : E) (h : e.key.size ≤ 32) (h1 : -1 ≤ e.far) (h2 : e.far ≤ 511) : entryE (recB e) = e := by
  obtain ⟨m, hm⟩ := Int.eq_ofNat_of_zero_le (show 0 ≤ e.far + 1 by omega)
  have hk := keyL e
  have hd := recE_drop e
  have d2 : (recE e).drop (1 + e.key.size) = two8 (e.far + 1).toNat ++ e.val.data.toList := by
    rw [← List.drop_drop, hd, List.drop_append_of_le_length (by omega), ← hk, List.drop_length, List.nil_append]
  have d3 : (recE e).drop (3 + e.key.size) = e.val.data.toList := by
    rw [show 3 + e.key.size = (1 + e.key.size) + 2 by omega, ← List.drop_drop, d2]; rfl
  unfold entryE
  rw [entryK_rec e h]
  have a1 : (recB e).extract 1 (1 + e.key.size) = e.key := by
    rw [extract_list, recB_list, hd, List.take_append_of_le_length (by omega), ← hk, List.take_length]
  have a2 : (recB e).extract (3 + e.key.size) (recB e).size = e.val := by
    rw [recB_size, extract_list, recB_list, d3, List.take_of_length_le (by simp)]
  have a3 : at2 (recB e).data.toList (1 + e.key.size) = m := by
    rw [recB_list]
    have g0 : (recE e).getD (1 + e.key.size) 0 = UInt8.ofNat (m / 256) := by
      have := congrArg (fun l => l.getD 0 0) d2
      simp only [List.getD_eq_getElem?_getD, List.getElem?_drop, Nat.add_zero] at this
      rw [List.getD_eq_getElem?_getD, this, hm]; rfl
    have g1 : (recE e).getD (1 + e.key.size + 1) 0 = UInt8.ofNat m := by
      have := congrArg (fun l => l.getD 1 0) d2
      simp only [List.getD_eq_getElem?_getD, List.getElem?_drop] at this
      rw [List.getD_eq_getElem?_getD, this, hm]; rfl
    unfold at2
    rw [g0, g1, UInt8.toNat_ofNat', UInt8.toNat_ofNat']
    omega
  rw [a1, a2, a3]
  obtain ⟨k, v, f⟩ := e
  dsimp only at *
  rw [show ((m : Nat) : Int) - 1 = f by omega]
theorem may_bounds {l : List E} {leaf : Bool} (hm : mayP l leaf) (e : E) (he : e ∈ l) : e.key.size ≤ 32 ∧ e.val.size ≤ 40 ∧ -1 ≤ e.far ∧ e.far ≤ 511 := by
  obtain ⟨i, hi, rfl⟩ := List.getElem_of_mem he
  have h2 := (rightP_iff l[i] leaf).1 (hm i hi l[i] (List.getElem?_eq_getElem hi)).1
  exact ⟨h2.1, h2.2.1, h2.2.2.1, h2.2.2.2.1⟩
theorem readE_recs {l : List E} {leaf : Bool} (hm : mayP l leaf) : readE (recsN leaf l) = l := by
  unfold readE recsN
  rw [List.tail_cons, List.map_map]
  have : l.map ((fun r => entryE ⟨r.toArray⟩) ∘ recE) = l.map id := by
    apply List.map_congr_left
    intro e he
    obtain ⟨b1, b2, b3, b4⟩ := may_bounds hm e he
    exact entryE_rec e b1 b3 b4
  rw [this, List.map_id]
theorem leafR_recs (leaf : Bool) (l : List E) : leafR (recsN leaf l) = leaf := by
  unfold leafR recsN kindB
  cases leaf <;> simp
theorem readOk_recs {l : List E} {leaf : Bool} (hm : mayP l leaf) : ReadOk (recsN leaf l) := by
  refine ⟨?_, ?_, ?_⟩
  · unfold recsN kindB
    cases leaf <;> simp
  · intro r hr
    unfold recsN at hr
    rw [List.tail_cons] at hr
    obtain ⟨e, he, rfl⟩ := List.mem_map.1 hr
    exact entryOk_rec e (may_bounds hm e he).1
  · rw [readE_recs hm, leafR_recs]; exact hm
/-- what awake lays -/
def l0 : List E := [⟨⟨#[97]⟩, ⟨#[120]⟩, -1⟩, ⟨⟨#[99]⟩, ⟨#[]⟩, 7⟩]
theorem may_l0 : mayP l0 true := by
  intro i hi
  have : i = 0 ∨ i = 1 := by simp [l0] at hi; omega
  rcases this with rfl | rfl
  · intro e he
    simp only [l0, List.getElem?_cons_zero, Option.some.injEq] at he
    subst he
    exact ⟨by decide, fun h => absurd h (Nat.lt_irrefl _)⟩
  · intro e he
    simp only [l0, List.getElem?_cons_succ, List.getElem?_cons_zero, Option.some.injEq] at he
    subst he
    refine ⟨by decide, fun _ p hp => ?_⟩
    simp only [l0, Nat.sub_self, List.getElem?_cons_zero, Option.some.injEq] at hp
    subst hp
    unfold leB
    simp only [bytes_toList]
    decide
theorem room_l0 : 0 ≤ roomR (recsN true l0) := by decide
end Go.Proofs.Yticehnnbjbliaab.Nd
