/-
  NodeFits: for every input the law returns true, and each argument reads behind the call as before. No condition of its own.
-/
import Derived.Test.YticehnnbjbliaabNd27
import Derived.Test.YticehnnbjbliaabNd28
import Derived.Test.YticehnnbjbliaabNd29
import Derived.Test.YticehnnbjbliaabNd30
namespace Go.Proofs.Yticehnnbjbliaab.nodeFits
open Go.ChangeShapes Go.WideShapes Go.ChangeAt Go.RowKit
open Go.ChangeMaps (open_string shut_string)
set_option linter.unusedVariables false

open Sl Nd
theorem place_uniq {l : List E} {leaf : Bool} {key : ByteArray} {p q : Nat} (hm : mayP l leaf) (hp : PlaceAt l key p) (hq : PlaceAt l key q) : p = q := by
  have key1 : ∀ {p q : Nat}, PlaceAt l key p → PlaceAt l key q → ¬ p < q := by
    intro p q hp hq hlt
    have hl := hq.1
    have hx := List.getElem?_eq_getElem (show p < l.length by omega)
    have a := (place_less hm hq p _ hx).2 hlt
    have b := hp.2.2 _ hx
    omega
  have h1 := key1 hp hq
  have h2 := key1 hq hp
  omega
theorem walk {H : Type} {enc : TypeId × Value → H} {w : World} {base : Nat} {v : Value} {d : DataW H} {ps : List MemPlace} (hok : Value.okWide Try.prog w .any base 24 v) (h : DataW.Trod enc Try.prog w 0 (fun _ => true) true 24 v d ps)
    {base' : Nat} {v' : Value} {d' : DataW H} {ps' : List MemPlace} (hok' : Value.okWide Try.prog w .any base' 50 v') (h' : DataW.Trod enc Try.prog w 0 (fun _ => true) true 50 v' d' ps') :
    Calls Try.prog 7 #[v, v'] w fun e w' => e = .returned (.bool true) ∧ Below w.heap.size w w' := by
  obtain ⟨leaf, A, n, c, l, rfl, hnc, hcm, hA, hE⟩ := node_of2 hok h
  obtain ⟨⟨xk, xv, xf⟩, rfl, hxk, hxv⟩ := ent_of hok' h'
  have hn : n ≤ 9223372036854775807 := by unfold maxLen at hcm; omega
  by_cases hx : lightP l ∧ xk.size ≤ 200 ∧ xv.size ≤ 200
  · have hn60 : n ≤ 60 := by have := hE.1; have := hx.1.1; omega
    by_cases hf : mayP l leaf ∧ 0 ≤ roomR (recsN leaf l)
    · rcases A with _ | ad
      · obtain rfl := hA rfl
        exact fits_good1 leaf none n 0 l xk xv xf hE hn hn60 hnc hcm hx.1 hx.2.1 hx.2.2 hf.1 hf.2 rfl rfl
      · by_cases hX : ∀ k, PlaceAt l xk k → k < n
        · exact fits_good2 leaf (some ad) n c l xk xv xf hE hn hn60 hnc hcm hx.1 hx.2.1 hx.2.2 hf.1 hf.2 ad rfl hX
        · have hY : ∀ k, PlaceAt l xk k → k = n := by
            intro k hk
            by_cases hkn : k < n
            · exact absurd (fun k' hk' => by rw [place_uniq hf.1 hk' hk]; exact hkn) hX
            · have := hk.1; have := hE.1; omega
          by_cases hcc : n < c
          · exact fits_good3 leaf (some ad) n c l xk xv xf hE hn hn60 hnc hcm hx.1 hx.2.1 hx.2.2 hf.1 hf.2 ad rfl hY hcc
          · exact fits_good4 leaf (some ad) n c l xk xv xf hE hn hn60 hnc hcm hx.1 hx.2.1 hx.2.2 hf.1 hf.2 ad rfl hY (by omega)
    · exact fits_fail leaf A n c l xk xv xf hE hn hn60 hnc hcm hx.1 hx.2.1 hx.2.2 hf
  · exact fits_idle leaf A n c l xk xv xf hE hn hx

set_option maxRecDepth 100000 in
theorem contract (H : Type) (enc : TypeId × Value → H) (W : World) (base : Nat) (args : Array Value) (ds gs : List (DataW H)) (before : List MemPlace)
    (hval0 : ∀ (j : Nat) t v, Try.f7.params[j]? = some t → args[j]? = some v → Value.okWide Try.prog W .any base t v)
    (hW : DataW.Whole enc Try.prog Try.f7.params.toList Rows.nodeFitsSpec.vars false W args.toList ds gs before) :
    Calls Try.prog 7 args W fun e W' => ∃ v, e = .returned v ∧ Rows.nodeFitsSpec.post enc Try.prog Try.f7 false true false false W args v W' := by
  have hval := hval0
  have hW' := hW
  obtain ⟨p, q, hA0, hV, rfl, hfz, hnd⟩ := hW
  have hA : DataW.TrodAll enc Try.prog W 0 (fun _ => true) true Try.f7.params.toList args.toList ds p := hA0
  have hlt : ∀ x ∈ p, x.block < W.heap.size := fun x hx => by simpa using hW'.lt x (List.mem_append_left _ hx)
  rw [Try.params7] at hA hval
  obtain ⟨v0, vs0, d0, ds0, p0, q0, hargs, rfl, rfl, h0, r0⟩ := trodAll_cons hA
  obtain ⟨v1, vs1, d1, ds1, p1, q1, rfl, rfl, rfl, h1, r1⟩ := trodAll_cons r0
  obtain ⟨rfl, rfl, rfl⟩ := trodAll_nil r1
  obtain rfl : args = #[v0, v1] := by cases args; simp_all
  obtain ⟨rfl, rfl⟩ := trodVars_none hV
  refine (walk (hval 0 24 v0 rfl rfl) h0 (hval 1 50 v1 rfl rfl) h1 ).mono fun e W1 ⟨he, hb⟩ => ?_
  subst he
  exact ⟨_, rfl, law_post laidOut hW' rfl (by kernel_rfl) (by rfl) Try.underlying4 rfl hb⟩

set_option maxRecDepth 100000 in
theorem lifted (os : Os) (started : os.Started) (H : Type) (enc : TypeId × Value → H) :
    ReturnsInHanded {} Try.checked os 7 .any (Rows.nodeFitsSpec.pre6 enc Try.prog Try.f7 Rows.nodeFitsRow.domain false) (Rows.nodeFitsSpec.post enc Try.prog Try.f7 false true false false) := by
  refine returnsInHanded_of_change (C := Try.checked) own started (by kernel_rfl) Try.func7
    (ChangeSpec.witness6 (enc := enc) (C := Try.checked) false ⟨#[], #[.agg #[.bool false, .slice none 0 0], .agg #[.string .empty, .string .empty, .int .i64 0]], []⟩ 8 (by kernel_rfl) (by kernel_rfl) (by kernel_rfl) (by kernel_rfl)) ?_
  intro W base args ds gs before hval0 hW hcnd _
  exact contract H enc W base args ds gs before hval0 hW

theorem proved : Rows.NodeFitsSaid :=
  OpenClaim.holds_of_wide 7 Try.f7 rfl rfl rfl rfl rfl rfl rfl ⟨rfl, rfl, rfl, rfl, rfl⟩ rfl rfl rfl rfl rfl (by kernel_rfl) Try.func7 (by kernel_rfl)
    (of_decide_eq_true (by kernel_rfl)) (by unfold Func.isWrapper; first | (rw [if_pos (by decide +kernel)]; kernel_rfl) | (rw [if_neg (by decide +kernel)]; exact ⟨rfl, rfl⟩))
    (fun os started H enc _ => lifted os started H enc)
#print axioms proved
end Go.Proofs.Yticehnnbjbliaab.nodeFits
