/- roots: tables that come in; what parts say. -/
import Derived.Test.YtemcamhkacaoiaaRt11
import Derived.Test.YtemcamhkacaoiaaRt9
namespace Go.Proofs.Ytemcamhkacaoiaa.Rt
open Go.RowKit Pk Go.Deep Go.ChangeShapes Go.WideShapes
/-- a table that came in -/
theorem ints_of {H : Type} {enc : TypeId × Value → H} {w : World} {base : Nat} {v : Value} {d : DataW H} {ps : List MemPlace} (hok : Value.okWide Try.prog w .any base 22 v) (h : DataW.Trod enc Try.prog w 0 (fun _ => true) true 22 v d ps) :
    ∃ (A : Option Addr) (n c : Nat) (l : List Int), v = .slice A n c ∧ n ≤ c ∧ n ≤ maxLen ∧ IntsAt w A n l := by
  obtain ⟨a0, len0, cap0, rfl⟩ := okWide_slice Try.underlying22 hok
  obtain ⟨fuel, hf⟩ := h
  have hce : Try.prog.cellsOf 3 = 1 := by kernel_rfl
  rcases open_slice Try.underlying22 hf with ⟨hc0, _⟩ | ⟨a, len, cap, m, n', D, Pl, hc0, _, hl2, hm2, hmm, _, hall⟩
  · simp [Value.cells] at hc0
    obtain ⟨rfl, rfl, rfl⟩ := hc0
    exact ⟨none, 0, 0, [], rfl, Nat.le_refl _, Nat.zero_le _, ⟨rfl, fun k x hx => by simp at hx⟩⟩
  · simp [Value.cells] at hc0
    obtain ⟨rfl, rfl, rfl⟩ := hc0
    simp at hmm
    have each : ∀ k, k < len0 → ∃ x : Int, w.cell? (a.add k) = some (.int .i64 x) := by
      intro k hk
      obtain ⟨cs', hcs', htr⟩ := hall k (by omega)
      rw [hce, Nat.mul_one] at hcs'
      obtain ⟨hlen, _, hget⟩ := World.cells?_some hcs'
      obtain ⟨r, hr, _⟩ := DataW.trod_int Try.underlying3 htr
      subst hr
      have g := hget 0 (by omega)
      rw [addr_zero] at g
      exact ⟨r, g⟩
    obtain ⟨F, hF⟩ := choose_lt (p := fun k x => w.cell? (a.add k) = some (.int .i64 x)) each
    refine ⟨some a, len0, cap0, (List.range len0).map F, rfl, hl2, by omega, by simp, ?_⟩
    intro k x hx
    rw [List.getElem?_map] at hx
    have hk : k < len0 := by
      by_cases hk : k < len0
      · exact hk
      · rw [List.getElem?_eq_none (by simp; omega)] at hx; simp at hx
    rw [List.getElem?_range hk] at hx
    simp only [Option.map_some, Option.some.injEq] at hx
    subst hx
    exact ⟨a, rfl, hF k hk⟩
def mx (x : Int) : Int := max x (-1)
theorem at2_part (s : List Int) (hs : ∀ x ∈ s, x ≤ 1023) (i : Nat) (h : i < s.length) : at2 (partF s) (2 * i) = num1 s[i] := by
  have := at2_flat (s.map num1) [] i (by simpa using h) (by
    intro x hx
    obtain ⟨y, hy, rfl⟩ := List.mem_map.1 hx
    have := hs y hy
    unfold num1; omega)
  rw [List.append_nil] at this
  unfold partF
  rw [this, List.getElem_map]
theorem getF_get (T : List UInt8) (m i : Nat) (h : i < (getF T m).length) : (getF T m)[i] = (at2 T (2 * i) : Int) - 1 := by simp [getF]
theorem getF_part (s : List Int) (hs : ∀ x ∈ s, x ≤ 1023) : getF (partF s) s.length = s.map mx := by
  apply List.ext_getElem (by simp)
  intro i h1 h2
  simp only [getF_length] at h1
  rw [getF_get, List.getElem_map, at2_part s hs i h1]
  unfold num1 mx
  omega
theorem part_small (s : List Int) (hs : ∀ x ∈ s, x ≤ 1023) (j : Nat) (hj : j < s.length) : at2 (partF s) (2 * j) ≤ 1024 := by
  rw [at2_part s hs j hj]
  have := hs _ (List.getElem_mem hj)
  unfold num1; omega
theorem partF_length (s : List Int) : (partF s).length = 2 * s.length := by unfold partF; rw [flat_two, List.length_map]
theorem seg_next (l : List Int) (i : Nat) : (l.take (116 * (i + 1))).map mx = (l.take (116 * i)).map mx ++ (segF l i).map mx := by
  rw [← List.map_append]
  congr 1
  unfold segF
  rw [show 116 * (i + 1) = 116 * i + 116 by omega, List.take_add]
end Go.Proofs.Ytemcamhkacaoiaa.Rt
