/- nodes: the document's Read. -/
import Derived.Test.YticehnnbjbliaabNd22
namespace Go.Proofs.Yticehnnbjbliaab.Nd
open Go.RowKit Sl
attribute [local go_sem ↓] Go.wp_at_zero Go.wp_at_succ exec_app
/-- what the document's Read tells -/
def RReadOf (rs : List (List UInt8)) (w : World) (e : Ending) (w' : World) : Prop :=
  ((¬ ReadOk rs ∧ e = .returned (.tuple #[nodeV false none 0 0, .bool false])) ∨
   (ReadOk rs ∧ ∃ A n c, e = .returned (.tuple #[nodeV (leafR rs) A n c, .bool true]) ∧ Slc w' 50 3 (.slice A n c) n (ents (readE rs)) ∧ Hid (∀ g ∈ ownB (.slice A n c), w.heap.size ≤ g))) ∧ Below w.heap.size w w'
set_option maxRecDepth 100000 in
set_option maxHeartbeats 3000000 in
theorem rread_nil {w : World} (A : Option Addr) (c : Nat) (S : Slc w 9 1 (.slice A (([] : List (List UInt8))).length c) (([] : List (List UInt8))).length (strs (([] : List (List UInt8))))) (hrs : (([] : List (List UInt8))).length ≤ 100) (hsm : ∀ r ∈ (([] : List (List UInt8))), r.length ≤ 300) :
    Calls Try.prog 21 #[.slice A (([] : List (List UInt8))).length c] w (RReadOf (([] : List (List UInt8))) w) := by
  have B0 := Lib.hid (Blk.new w 24 #[.bool false, .slice none 0 0])
  have O0 := Lib.hid (belowAlloc (Below.refl w.heap.size w) (.cells #[.bool false, .slice none 0 0] 24))
  have f0 : (w.alloc (.cells #[.bool false, .slice none 0 0] 24)).frozen? ⟨w.heap.size, 0, none⟩ = false := B0.out.frozen 0 (by simp)
  have f1 : (w.alloc (.cells #[.bool false, .slice none 0 0] 24)).frozen? ⟨w.heap.size, 1, none⟩ = false := B0.out.frozen 1 (by simp)
  have z0 : (w.alloc (.cells #[.bool false, .slice none 0 0] 24)).cell? ⟨w.heap.size, 0, none⟩ = some (.bool false) := B0.out.cell_some (i := 0) rfl
  have z1 : (w.alloc (.cells #[.bool false, .slice none 0 0] 24)).cell? ⟨w.heap.size, 1, none⟩ = some (.slice none 0 0) := B0.out.cell_some (i := 1) rfl
  have BZ := Lib.hid ((B0.out.set_ 0 (.bool false)).set_ 1 (.slice none 0 0))
  have OZ := Lib.hid (((((Only.of_below (S := []) O0.out).setCell (p := ⟨w.heap.size, 0, none⟩) (fun h => absurd h (by simp)) (.bool false)).setCell (p := ⟨w.heap.size, 1, none⟩) (fun h => absurd h (by simp)) (.slice none 0 0))).below_nil)
  unfold RReadOf nodeV
  clear S
  go_enter Try.func21, Try.ntmps21
  go_wp2_with fail
  exact bodyPost_ret (ret_rnode2 rfl rfl B0.out) rfl ⟨.inl ⟨by simp [ReadOk], rfl⟩, O0.out⟩
set_option maxRecDepth 100000 in
set_option maxHeartbeats 3000000 in
theorem rread_odd {w : World} (A : Option Addr) (c : Nat) (r0 : List UInt8) (rest : List (List UInt8)) (h1 : ¬ r0 = [1]) (h2 : ¬ r0 = [2]) (S : Slc w 9 1 (.slice A (r0 :: rest).length c) (r0 :: rest).length (strs (r0 :: rest))) (hrs : (r0 :: rest).length ≤ 100) (hsm : ∀ r ∈ (r0 :: rest), r.length ≤ 300) :
    Calls Try.prog 21 #[.slice A (r0 :: rest).length c] w (RReadOf (r0 :: rest) w) := by
  have B0 := Lib.hid (Blk.new w 24 #[.bool false, .slice none 0 0])
  have O0 := Lib.hid (belowAlloc (Below.refl w.heap.size w) (.cells #[.bool false, .slice none 0 0] 24))
  have f0 : (w.alloc (.cells #[.bool false, .slice none 0 0] 24)).frozen? ⟨w.heap.size, 0, none⟩ = false := B0.out.frozen 0 (by simp)
  have f1 : (w.alloc (.cells #[.bool false, .slice none 0 0] 24)).frozen? ⟨w.heap.size, 1, none⟩ = false := B0.out.frozen 1 (by simp)
  have z0 : (w.alloc (.cells #[.bool false, .slice none 0 0] 24)).cell? ⟨w.heap.size, 0, none⟩ = some (.bool false) := B0.out.cell_some (i := 0) rfl
  have z1 : (w.alloc (.cells #[.bool false, .slice none 0 0] 24)).cell? ⟨w.heap.size, 1, none⟩ = some (.slice none 0 0) := B0.out.cell_some (i := 1) rfl
  have BZ := Lib.hid ((B0.out.set_ 0 (.bool false)).set_ 1 (.slice none 0 0))
  have OZ := Lib.hid (((((Only.of_below (S := []) O0.out).setCell (p := ⟨w.heap.size, 0, none⟩) (fun h => absurd h (by simp)) (.bool false)).setCell (p := ⟨w.heap.size, 1, none⟩) (fun h => absurd h (by simp)) (.slice none 0 0))).below_nil)
  obtain ⟨g, rfl, ck⟩ := str_cell S 0 (by simp)
  have hgl : g < w.heap.size := S.lt g (by simp [ownB])
  have ck0 : (w.alloc (.cells #[.bool false, .slice none 0 0] 24)).cell? ⟨g, 0, none⟩ = some (.string ⟨r0.toArray⟩) := (O0.out.cell (p := ⟨g, 0, none⟩) hgl).trans ck
  have SS := Lib.hid S
  have hsm := Lib.hid hsm
  have hrl : rest.length + 1 ≤ 100 := hrs
  have hl1 : (r0 :: rest).length = rest.length + 1 := rfl
  rw [hl1] at SS
  rw [hl1]
  clear ck S hrs hl1
  obtain ⟨K0, hK0⟩ : ∃ K0 : ByteArray, (⟨r0.toArray⟩ : ByteArray) = K0 := ⟨_, rfl⟩
  rw [hK0] at ck0
  have hKL : K0.toList = r0 := by rw [bytes_toList, ← hK0]
  clear hK0
  have n1 : ¬ (rest.length : Int) + 1 = 0 := by omega
  have n2 : ((rest.length : Int) + 1 == 0) = false := by simpa using n1
  rw [← hKL] at h1 h2
  have k1 : (K0.toList == [1]) = false := by simpa using h1
  have k2 : (K0.toList == [2]) = false := by simpa using h2
  have HNO := Lib.hid (show ¬ ReadOk (r0 :: rest) from fun hx => by
    have := hx.1
    simp only [List.head?_cons, Option.some.injEq] at this
    rw [← hKL] at this
    exact this.elim h1 h2)
  unfold RReadOf nodeV
  clear hKL
  go_enter Try.func21, Try.ntmps21
  go_wp2_with fail
  exact bodyPost_ret (ret_rnode2 rfl rfl B0.out) rfl ⟨.inl ⟨HNO.out, rfl⟩, O0.out⟩
set_option maxRecDepth 100000 in
set_option maxHeartbeats 3000000 in
theorem rread_many_true {w : World} (A : Option Addr) (c : Nat) (r0 : List UInt8) (rest : List (List UInt8)) (hr0 : r0 = [1]) (S : Slc w 9 1 (.slice A (r0 :: rest).length c) (r0 :: rest).length (strs (r0 :: rest))) (hrs : (r0 :: rest).length ≤ 100) (hsm : ∀ r ∈ (r0 :: rest), r.length ≤ 300) :
    Calls Try.prog 21 #[.slice A (r0 :: rest).length c] w (RReadOf (r0 :: rest) w) := by
  have B0 := Lib.hid (Blk.new w 24 #[.bool false, .slice none 0 0])
  have O0 := Lib.hid (belowAlloc (Below.refl w.heap.size w) (.cells #[.bool false, .slice none 0 0] 24))
  have f0 : (w.alloc (.cells #[.bool false, .slice none 0 0] 24)).frozen? ⟨w.heap.size, 0, none⟩ = false := B0.out.frozen 0 (by simp)
  have f1 : (w.alloc (.cells #[.bool false, .slice none 0 0] 24)).frozen? ⟨w.heap.size, 1, none⟩ = false := B0.out.frozen 1 (by simp)
  have z0 : (w.alloc (.cells #[.bool false, .slice none 0 0] 24)).cell? ⟨w.heap.size, 0, none⟩ = some (.bool false) := B0.out.cell_some (i := 0) rfl
  have z1 : (w.alloc (.cells #[.bool false, .slice none 0 0] 24)).cell? ⟨w.heap.size, 1, none⟩ = some (.slice none 0 0) := B0.out.cell_some (i := 1) rfl
  have BZ := Lib.hid ((B0.out.set_ 0 (.bool false)).set_ 1 (.slice none 0 0))
  have OZ := Lib.hid (((((Only.of_below (S := []) O0.out).setCell (p := ⟨w.heap.size, 0, none⟩) (fun h => absurd h (by simp)) (.bool false)).setCell (p := ⟨w.heap.size, 1, none⟩) (fun h => absurd h (by simp)) (.slice none 0 0))).below_nil)
  obtain ⟨g, rfl, ck⟩ := str_cell S 0 (by simp)
  have hgl : g < w.heap.size := S.lt g (by simp [ownB])
  have ck0 : (w.alloc (.cells #[.bool false, .slice none 0 0] 24)).cell? ⟨g, 0, none⟩ = some (.string ⟨r0.toArray⟩) := (O0.out.cell (p := ⟨g, 0, none⟩) hgl).trans ck
  have SS := Lib.hid S
  have hsm := Lib.hid hsm
  have hrl : rest.length + 1 ≤ 100 := hrs
  have hl1 : (r0 :: rest).length = rest.length + 1 := rfl
  rw [hl1] at SS
  rw [hl1]
  clear ck S hrs hl1
  obtain ⟨K0, hK0⟩ : ∃ K0 : ByteArray, (⟨r0.toArray⟩ : ByteArray) = K0 := ⟨_, rfl⟩
  rw [hK0] at ck0
  have hKL : K0.toList = r0 := by rw [bytes_toList, ← hK0]
  clear hK0
  have n1 : ¬ (rest.length : Int) + 1 = 0 := by omega
  have n2 : ((rest.length : Int) + 1 == 0) = false := by simpa using n1
  have hk : K0.toList = [1] := by rw [hKL]; exact hr0
  have HR0 := Lib.hid hr0
  have k1 : (K0.toList == [1]) = true := by rw [hk]; decide
  have k2 : (K0.toList == [2]) = false := by rw [hk]; decide
  have k3 : K0.toList = [1] := by rw [hk]
  clear hKL hk hr0
  have R2 := Lib.hid (B0.out.alloc (.cells #[.bool true, .slice none 0 0] 24))
  have R4 := Blk.new (w.alloc (.cells #[.bool false, .slice none 0 0] 24)) 24 #[.bool true, .slice none 0 0]
  rw [asz] at R4
  have R4 := Lib.hid R4
  have RO := Lib.hid (belowAlloc O0.out (.cells #[.bool true, .slice none 0 0] 24))
  have RSS := Lib.hid ((SS.out.alloc (.cells #[.bool false, .slice none 0 0] 24)).alloc (.cells #[.bool true, .slice none 0 0] 24))
  unfold RReadOf nodeV
  go_enter Try.func21, Try.ntmps21
  go_wp2_with fail
  generalize hW6 : ((w.alloc (.cells #[.bool false, .slice none 0 0] 24)).alloc (.cells #[.bool true, .slice none 0 0] 24)) = W6 at *
  clear hW6 f0 f1 z0 z1 ck0
  go_loopw [5] (fun iv wr => ∃ (i : Nat) (v' : Value), i ≤ rest.length ∧ iv = .int .i64 ((i + 1 : Nat) : Int) ∧ Blk wr (w.heap.size + 1) 24 #[.bool true, v'] ∧ Blk wr w.heap.size 24 #[.bool false, .slice none 0 0] ∧ Slc wr 50 3 v' i (ents ((rest.take i).map fun r => entryE ⟨r.toArray⟩)) ∧ Slc wr 9 1 (.slice (some ⟨g, 0, none⟩) (rest.length + 1) c) (rest.length + 1) (strs (r0 :: rest)) ∧ Hid (∀ r ∈ rest.take i, entryOk ⟨r.toArray⟩) ∧ Below w.heap.size w wr ∧ Hid (∀ x ∈ ownB v', w.heap.size + 2 ≤ x)) (fun iv _ => rest.length + 1 - (intOf iv).toNat)
  case atStart => exact ⟨0, _, Nat.zero_le _, rfl, R4.out, R2.out, Slc.nil _ _ _, RSS.out, Lib.hid (by simp), RO.out, Lib.hid (fun x hx => by simp [ownB] at hx)⟩
  case round =>
    obtain ⟨i, v', hi, rfl, C6, C2, S, RS, EO, O, F⟩ := hrel
    obtain ⟨VA, vc, rfl⟩ := slc_val S
    have hltr := C6.lt
    have hg6 : w.heap.size + 1 ∉ ownB (.slice VA i vc) := fun hx => by have := F.out _ hx; omega
    have hg2 : w.heap.size ∉ ownB (.slice VA i vc) := fun hx => by have := F.out _ hx; omega
    have hgg : g ∉ ownB (.slice VA i vc) := fun hx => by have := F.out _ hx; omega
    by_cases h : i < rest.length
    · obtain ⟨g', hgx, ck⟩ := str_cell RS (i + 1) (by simp; omega)
      simp only [Option.some.injEq, Addr.mk.injEq, and_true] at hgx
      subst hgx
      have hri : (r0 :: rest)[i + 1]'(by simp; omega) = rest[i] := List.getElem_cons_succ ..
      rw [hri] at ck
      have hsz : rest[i].length ≤ 300 := hsm.out _ (List.mem_cons_of_mem _ (List.getElem_mem h))
      have HT := Lib.hid (List.take_succ_eq_append_getElem h)
      obtain ⟨T, hT⟩ : ∃ T : ByteArray, (⟨rest[i].toArray⟩ : ByteArray) = T := ⟨_, rfl⟩
      have hTs : T.size ≤ 300 := by rw [← hT, Sl.size_of_list]; exact hsz
      rw [hT] at ck
      have HTT := Lib.hid hT
      have hiI : ((i + 1 : Nat) : Int) < (rest.length : Int) + 1 := by omega
      have hiN : i + 1 < rest.length + 1 := by omega
      obtain ⟨i1, hi1⟩ : ∃ i1 : Nat, i + 1 = i1 := ⟨_, rfl⟩
      have HI1 := Lib.hid hi1
      rw [hi1] at ck hiI hiN ⊢
      clear hT hri hsz hi1
      by_cases hok : entryOk T
      · have HOK := Lib.hid hok
        unfold entryOk at hok
        have h0 : 0 < T.size := by omega
        have h1 : (0 : Int) < (T.size : Int) := by omega
        have hk : entryK T = T[0].toNat := by unfold entryK; rw [getD_size _ _ h0]
        rw [hk] at hok
        have b0 := T[0].toNat_lt
        have h3 : ¬ (T.size : Int) < 3 := by omega
        have h2 : ¬ (T.size : Int) < 3 + (T[0].toNat : Int) := by omega
        have e4 : IntKind.i64.wrap (T[0].toNat : Int) = (T[0].toNat : Int) := IntWalk.i64_in _ (by omega)
        have e5 : IntKind.i64.wrap (3 + (T[0].toNat : Int)) = 3 + (T[0].toNat : Int) := IntWalk.i64_in _ (by omega)
        have e6 : IntKind.i64.wrap ((T[0].toNat : Int) + 1) = (T[0].toNat : Int) + 1 := IntWalk.i64_in _ (by omega)
        obtain ⟨k, hkk⟩ : ∃ k, T[0].toNat + 1 = k := ⟨_, rfl⟩
        have hkI : (T[0].toNat : Int) + 1 = ((k : Nat) : Int) := by omega
        have hk1 : k < T.size := by omega
        have hk2 : k + 1 < T.size := by omega
        have b1 := T[k].toNat_lt
        have b2 := T[k + 1].toNat_lt
        have g6 : wr.cell? ⟨w.heap.size + 1, 1, none⟩ = some (.slice VA i vc) := C6.cell_some (i := 1) rfl
        obtain ⟨e, he⟩ : ∃ e : E, e = ⟨T.extract 1 k, T.extract (k + 2) T.size, (T[k].toNat : Int) * 256 + (T[k + 1].toNat : Int) - 1⟩ := ⟨_, rfl⟩
        have HE := Lib.hid (show entryE T = e from by
          rw [he]
          unfold entryE
          rw [hk, show 1 + T[0].toNat = k by omega, show 3 + T[0].toNat = k + 2 by omega]
          congr 1
          unfold at2
          rw [getD_size _ _ hk1, getD_size _ _ hk2]
          omega)
        obtain ⟨v2, w3, ea, S3, ow, f3⟩ := append_ent (P := Try.prog) S.drew 22 22 (.agg #[.string .empty, .string .empty, .int .i64 0]) 40 Try.underlying22 (by kernel_rfl) rfl e (by unfold maxLen; omega) (by omega)
        obtain ⟨V2, vc2, rfl⟩ := slc_val S3
        have ea2 : appRun Try.prog 22 22 (wr.alloc (.cells #[.string e.key, .string e.val, .int .i64 e.far] 50)).drew (.slice VA i vc) (.slice (some ⟨wr.heap.size, 0, none⟩) 1 1) = .ok (.slice V2 (i + 1) vc2) w3 := ea
        have OD := Lib.hid ((Only.refl (ownB (.slice VA i vc)) wr).drew)
        have OW := OD.out.trans ow
        have CW := C6.drew.only ow hg6
        have fz : w3.frozen? ⟨w.heap.size + 1, 1, none⟩ = false := CW.frozen 1 (by simp)
        have cz : w3.cell? ⟨w.heap.size + 1, 1, none⟩ = some (.slice VA i vc) := CW.cell_some (i := 1) rfl
        have OX := OW.mono (S' := (w.heap.size + 1) :: ownB (.slice VA i vc)) (fun x hx _ => List.mem_cons_of_mem _ hx) |>.setCell (p := ⟨w.heap.size + 1, 1, none⟩) (fun _ => by simp) (.slice V2 (i + 1) vc2)
        have CX := Lib.hid (CW.set_ 1 (.slice V2 (i + 1) vc2))
        have C2X := Lib.hid (C2.only OX (by simp; exact hg2))
        have RX := Lib.hid (RS.only OX (fun x hx => by simp [ownB] at hx; subst hx; simp; exact ⟨by omega, hgg⟩))
        have hv2 : ∀ x ∈ ownB (.slice V2 (i + 1) vc2), w.heap.size + 2 ≤ x := fun x hx => (f3 x hx).elim (F.out x) (fun h => by have h : wr.heap.size ≤ x := h; omega)
        have FX := Lib.hid hv2
        have SX := Lib.hid (S3.only ((Only.refl [w.heap.size + 1] w3).setCell (p := ⟨w.heap.size + 1, 1, none⟩) (fun _ => by simp) (.slice V2 (i + 1) vc2)) (fun x hx => by have := hv2 x hx; simp; omega))
        have OB := Lib.hid (O.trans (OX.below_of O.size (fun x hx => by
          rcases List.mem_cons.1 hx with rfl | hx
          · omega
          · have := F.out x hx; omega)))
        have HSX := Lib.hid (show ents ((rest.take (i + 1)).map fun r => entryE ⟨r.toArray⟩) = ents ((rest.take i).map fun r => entryE ⟨r.toArray⟩) ++ e.cells from by
          rw [HT.out, List.map_append, ents_append, List.map_cons, HTT.out, HE.out]; simp [ents])
        have EX := Lib.hid (show ∀ r ∈ rest.take (i + 1), entryOk ⟨r.toArray⟩ from fun r hr => by
          rw [HT.out] at hr
          rcases List.mem_append.1 hr with hr | hr
          · exact EO.out r hr
          · simp only [List.mem_singleton] at hr
            rw [hr, HTT.out]; exact HOK.out)
        have hee : e.key = T.extract 1 k ∧ e.val = T.extract (k + 2) T.size ∧ e.far = (T[k].toNat : Int) * 256 + (T[k + 1].toNat : Int) - 1 := by rw [he]; exact ⟨rfl, rfl, rfl⟩
        rw [hee.1, hee.2.1, hee.2.2] at ea2
        have EA := Lib.hid ea2
        clear hee ea ea2 S3 ow f3 OW CW OX hv2 C6 C2 RS O S he hok hk
        have y1 : IntKind.i64.wrap ((k : Int) + 1) = (k : Int) + 1 := IntWalk.i64_in _ (by omega)
        have y2 : (0 : Int) ≤ (k : Int) + 1 := by omega
        have y3 : ((k : Int) + 1).toNat = k + 1 := by omega
        have y7 : (k : Int) + 1 < (T.size : Int) := by omega
        have y8 : (k : Int) < (T.size : Int) := by omega
        have v1 : IntKind.i64.wrap (T[k].toNat : Int) = (T[k].toNat : Int) := IntWalk.i64_in _ (by omega)
        have v2 : IntKind.i64.wrap ((T[k].toNat : Int) * 256) = (T[k].toNat : Int) * 256 := IntWalk.i64_in _ (by omega)
        have v3 : IntKind.i64.wrap (T[k + 1].toNat : Int) = (T[k + 1].toNat : Int) := IntWalk.i64_in _ (by omega)
        have v4 : IntKind.i64.wrap ((T[k].toNat : Int) * 256 + (T[k + 1].toNat : Int)) = (T[k].toNat : Int) * 256 + (T[k + 1].toNat : Int) := IntWalk.i64_in _ (by omega)
        have v5 : IntKind.i64.wrap ((T[k].toNat : Int) * 256 + (T[k + 1].toNat : Int) - 1) = (T[k].toNat : Int) * 256 + (T[k + 1].toNat : Int) - 1 := IntWalk.i64_in _ (by omega)
        have x1 : IntKind.i64.wrap ((k : Int) + 2) = (k : Int) + 2 := IntWalk.i64_in _ (by omega)
        have x2 : (0 : Int) ≤ (k : Int) + 2 := by omega
        have x3 : ((k : Int) + 2).toNat = k + 2 := by omega
        have x4 : (k : Int) + 2 ≤ (T.size : Int) := by omega
        have x5 : (k : Int) ≤ (T.size : Int) := by omega
        have x6 : (1 : Int) ≤ (k : Int) := by omega
        go_wp2_with fail
        refine wp_region_held_drew (S := fun _ => True) (by kernel_rfl) trivial (fun hHeld => ?_)
        refine wpAnyH_take (i := 0) (oi := ⟨some 56, _, _, _, _, _⟩) (v := ?_) rfl (by kernel_rfl) (by kernel_rfl) (by kernel_rfl) (fun _ _ _ h => h) (Or.inl ⟨by kernel_rfl, ?_⟩) (by assumption) ?_
        rotate_left
        · (intro w hSw; (try dsimp only at hSw); go_simp; (try (with_reducible rfl)))
        try simp only [Act.put, List.setIfInBounds_toArray, List.set_cons_zero, List.set_cons_succ]
        refine wpAnyH_take (i := 2) (oi := ⟨some 58, _, _, _, _, _⟩) (v := ?_) rfl (by kernel_rfl) (by kernel_rfl) (by kernel_rfl) (fun _ _ _ h => h) (Or.inl ⟨by kernel_rfl, ?_⟩) (by assumption) ?_
        rotate_left
        · (intro w hSw; (try dsimp only at hSw); go_simp; (try (with_reducible rfl)))
        try simp only [Act.put, List.setIfInBounds_toArray, List.set_cons_zero, List.set_cons_succ]
        refine wpAnyH_take (i := 3) (oi := ⟨some 59, _, _, _, _, _⟩) (v := ?_) rfl (by kernel_rfl) (by kernel_rfl) (by kernel_rfl) (fun _ _ _ h => h) (Or.inl ⟨by kernel_rfl, ?_⟩) (by assumption) ?_
        rotate_left
        · (intro w hSw; (try dsimp only at hSw); go_simp; (try (with_reducible rfl)))
        try simp only [Act.put, List.setIfInBounds_toArray, List.set_cons_zero, List.set_cons_succ]
        refine wpAnyH_take (i := 4) (oi := ⟨some 60, _, _, _, _, _⟩) (v := ?_) rfl (by kernel_rfl) (by kernel_rfl) (by kernel_rfl) (fun _ _ _ h => h) (Or.inl ⟨by kernel_rfl, ?_⟩) (by assumption) ?_
        rotate_left
        · (intro w hSw; (try dsimp only at hSw); go_simp; (try (with_reducible rfl)))
        try simp only [Act.put, List.setIfInBounds_toArray, List.set_cons_zero, List.set_cons_succ]
        refine wpAnyH_take (i := 5) (oi := ⟨some 61, _, _, _, _, _⟩) (v := ?_) rfl (by kernel_rfl) (by kernel_rfl) (by kernel_rfl) (fun _ _ _ h => h) (Or.inl ⟨by kernel_rfl, ?_⟩) (by assumption) ?_
        rotate_left
        · (intro w hSw; (try dsimp only at hSw); go_simp; (try (with_reducible rfl)))
        try simp only [Act.put, List.setIfInBounds_toArray, List.set_cons_zero, List.set_cons_succ]
        refine wpAnyH_take (i := 6) (oi := ⟨some 62, _, _, _, _, _⟩) (v := ?_) rfl (by kernel_rfl) (by kernel_rfl) (by kernel_rfl) (fun _ _ _ h => h) (Or.inl ⟨by kernel_rfl, ?_⟩) (by assumption) ?_
        rotate_left
        · (intro w hSw; (try dsimp only at hSw); go_simp; (try (with_reducible rfl)))
        try simp only [Act.put, List.setIfInBounds_toArray, List.set_cons_zero, List.set_cons_succ]
        refine wpAnyH_take (i := 7) (oi := ⟨some 63, _, _, _, _, _⟩) (v := ?_) rfl (by kernel_rfl) (by kernel_rfl) (by kernel_rfl) (fun _ _ _ h => h) (Or.inl ⟨by kernel_rfl, ?_⟩) (by assumption) ?_
        rotate_left
        · (intro w hSw; (try dsimp only at hSw); go_simp; (try (with_reducible rfl)))
        try simp only [Act.put, List.setIfInBounds_toArray, List.set_cons_zero, List.set_cons_succ]
        refine wpAnyH_take (i := 8) (oi := ⟨some 64, _, _, _, _, _⟩) (v := ?_) rfl (by kernel_rfl) (by kernel_rfl) (by kernel_rfl) (fun _ _ _ h => h) (Or.inl ⟨by kernel_rfl, ?_⟩) (by assumption) ?_
        rotate_left
        · (intro w hSw; (try dsimp only at hSw); go_simp; (try (with_reducible rfl)))
        try simp only [Act.put, List.setIfInBounds_toArray, List.set_cons_zero, List.set_cons_succ]
        refine wpAnyH_take (i := 9) (oi := ⟨some 65, _, _, _, _, _⟩) (v := ?_) rfl (by kernel_rfl) (by kernel_rfl) (by kernel_rfl) (fun _ _ _ h => h) (Or.inl ⟨by kernel_rfl, ?_⟩) (by assumption) ?_
        rotate_left
        · (intro w hSw; (try dsimp only at hSw); go_simp; (try (with_reducible rfl)))
        try simp only [Act.put, List.setIfInBounds_toArray, List.set_cons_zero, List.set_cons_succ]
        refine wpAnyH_take (i := 10) (oi := ⟨some 66, _, _, _, _, _⟩) (v := ?_) rfl (by kernel_rfl) (by kernel_rfl) (by kernel_rfl) (fun _ _ _ h => h) (Or.inl ⟨by kernel_rfl, ?_⟩) (by assumption) ?_
        rotate_left
        · (intro w hSw; (try dsimp only at hSw); go_simp; (try (with_reducible rfl)))
        try simp only [Act.put, List.setIfInBounds_toArray, List.set_cons_zero, List.set_cons_succ]
        refine wpAnyH_take (i := 11) (oi := ⟨some 67, _, _, _, _, _⟩) (v := ?_) rfl (by kernel_rfl) (by kernel_rfl) (by kernel_rfl) (fun _ _ _ h => h) (Or.inl ⟨by kernel_rfl, ?_⟩) (by assumption) ?_
        rotate_left
        · (intro w hSw; (try dsimp only at hSw); go_simp; (try (with_reducible rfl)))
        try simp only [Act.put, List.setIfInBounds_toArray, List.set_cons_zero, List.set_cons_succ]
        refine wpAnyH_take (i := 12) (oi := ⟨some 68, _, _, _, _, _⟩) (v := ?_) rfl (by kernel_rfl) (by kernel_rfl) (by kernel_rfl) (fun _ _ _ h => h) (Or.inl ⟨by kernel_rfl, ?_⟩) (by assumption) ?_
        rotate_left
        · (intro w hSw; (try dsimp only at hSw); go_simp; (try (with_reducible rfl)))
        try simp only [Act.put, List.setIfInBounds_toArray, List.set_cons_zero, List.set_cons_succ]
        refine wpAnyH_take (i := 13) (oi := ⟨some 69, _, _, _, _, _⟩) (v := ?_) rfl (by kernel_rfl) (by kernel_rfl) (by kernel_rfl) (fun _ _ _ h => h) (Or.inl ⟨by kernel_rfl, ?_⟩) (by assumption) ?_
        rotate_left
        · (intro w hSw; (try dsimp only at hSw); go_simp; (try (with_reducible rfl)))
        try simp only [Act.put, List.setIfInBounds_toArray, List.set_cons_zero, List.set_cons_succ]
        refine wpAnyH_take (i := 14) (oi := ⟨some 70, _, _, _, _, _⟩) (v := ?_) rfl (by kernel_rfl) (by kernel_rfl) (by kernel_rfl) (fun _ _ _ h => h) (Or.inl ⟨by kernel_rfl, ?_⟩) (by assumption) ?_
        rotate_left
        · (intro w hSw; (try dsimp only at hSw); go_simp; (try (with_reducible rfl)))
        try simp only [Act.put, List.setIfInBounds_toArray, List.set_cons_zero, List.set_cons_succ]
        refine wpAnyH_take (i := 15) (oi := ⟨some 71, _, _, _, _, _⟩) (v := ?_) rfl (by kernel_rfl) (by kernel_rfl) (by kernel_rfl) (fun _ _ _ h => h) (Or.inl ⟨by kernel_rfl, ?_⟩) (by assumption) ?_
        rotate_left
        · (intro w hSw; (try dsimp only at hSw); go_simp; (try (with_reducible rfl)))
        try simp only [Act.put, List.setIfInBounds_toArray, List.set_cons_zero, List.set_cons_succ]
        refine wpAnyH_take (i := 16) (oi := ⟨some 72, _, _, _, _, _⟩) (v := ?_) rfl (by kernel_rfl) (by kernel_rfl) (by kernel_rfl) (fun _ _ _ h => h) (Or.inl ⟨by kernel_rfl, ?_⟩) (by assumption) ?_
        rotate_left
        · (intro w hSw; (try dsimp only at hSw); go_simp; (try (with_reducible rfl)))
        try simp only [Act.put, List.setIfInBounds_toArray, List.set_cons_zero, List.set_cons_succ]
        refine wpAnyH_take (i := 17) (oi := ⟨some 73, _, _, _, _, _⟩) (v := ?_) rfl (by kernel_rfl) (by kernel_rfl) (by kernel_rfl) (fun _ _ _ h => h) (Or.inl ⟨by kernel_rfl, ?_⟩) (by assumption) ?_
        rotate_left
        · (intro w hSw; (try dsimp only at hSw); go_simp; (try (with_reducible rfl)))
        try simp only [Act.put, List.setIfInBounds_toArray, List.set_cons_zero, List.set_cons_succ]
        refine wpAnyH_take (i := 18) (oi := ⟨some 74, _, _, _, _, _⟩) (v := ?_) rfl (by kernel_rfl) (by kernel_rfl) (by kernel_rfl) (fun _ _ _ h => h) (Or.inl ⟨by kernel_rfl, ?_⟩) (by assumption) ?_
        rotate_left
        · (intro w hSw; (try dsimp only at hSw); go_simp; (try (with_reducible rfl)))
        try simp only [Act.put, List.setIfInBounds_toArray, List.set_cons_zero, List.set_cons_succ]
        refine wpAnyH_take (i := 19) (oi := ⟨some 75, _, _, _, _, _⟩) (v := ?_) rfl (by kernel_rfl) (by kernel_rfl) (by kernel_rfl) (fun _ _ _ h => h) (Or.inl ⟨by kernel_rfl, ?_⟩) (by assumption) ?_
        rotate_left
        · (intro w hSw; (try dsimp only at hSw); go_simp; (try (with_reducible rfl)))
        try simp only [Act.put, List.setIfInBounds_toArray, List.set_cons_zero, List.set_cons_succ]
        refine wpAnyH_take (i := 20) (oi := ⟨some 76, _, _, _, _, _⟩) (v := ?_) rfl (by kernel_rfl) (by kernel_rfl) (by kernel_rfl) (fun _ _ _ h => h) (Or.inl ⟨by kernel_rfl, ?_⟩) (by assumption) ?_
        rotate_left
        · (intro w hSw; (try dsimp only at hSw); go_simp; (try (with_reducible rfl)))
        try simp only [Act.put, List.setIfInBounds_toArray, List.set_cons_zero, List.set_cons_succ]
        refine wpAnyH_take (i := 21) (oi := ⟨some 77, _, _, _, _, _⟩) (v := ?_) rfl (by kernel_rfl) (by kernel_rfl) (by kernel_rfl) (fun _ _ _ h => h) (Or.inl ⟨by kernel_rfl, ?_⟩) (by assumption) ?_
        rotate_left
        · (intro w hSw; (try dsimp only at hSw); go_simp; (try (with_reducible rfl)))
        try simp only [Act.put, List.setIfInBounds_toArray, List.set_cons_zero, List.set_cons_succ]
        refine wpAnyH_ready (rs := [1, 22]) (by kernel_rfl) (by simp) ?_
        refine AllReadyH.cons (o := ⟨some 57, _, _, _, _, _⟩) rfl (fun K hK => ?_) (AllReadyH.cons (o := ⟨some 78, _, _, _, _, _⟩) rfl (fun K hK => ?_) AllReadyH.nil)
        · go_simp
          refine hK.out _ _ trivial (fun hHeld => ?_)
          try simp only [Act.put, List.setIfInBounds_toArray, List.set_cons_zero, List.set_cons_succ]
          refine wpAnyH_ready (rs := [22]) (by kernel_rfl) (by simp) ?_
          refine AllReadyH.cons (o := ⟨some 78, _, _, _, _, _⟩) rfl (fun K hK => ?_) AllReadyH.nil
          go_simp
          refine hK.out _ _ trivial (fun hHeld => ?_)
          try simp only [Act.put, List.setIfInBounds_toArray, List.set_cons_zero, List.set_cons_succ]
          refine wpAnyH_ready (rs := [23]) (by kernel_rfl) (by simp) ?_
          refine AllReadyH.cons (o := ⟨some 79, _, _, _, _, _⟩) rfl (fun K hK => ?_) AllReadyH.nil
          go_simp
          rw [EA.out]
          go_simp
          refine hK.out _ _ trivial (fun hHeld => ?_)
          try simp only [Act.put, List.setIfInBounds_toArray, List.set_cons_zero, List.set_cons_succ]
          refine wpAnyH_take (i := 24) (oi := ⟨some 80, _, _, _, _, _⟩) (v := ?_) rfl (by kernel_rfl) (by kernel_rfl) (by kernel_rfl) (fun _ _ _ h => h) (Or.inl ⟨by kernel_rfl, ?_⟩) (by assumption) ?_
          rotate_left
          · (intro w hSw; (try dsimp only at hSw); go_simp; (try (with_reducible rfl)))
          try simp only [Act.put, List.setIfInBounds_toArray, List.set_cons_zero, List.set_cons_succ]
          refine wpAnyH_ready (rs := [25]) (by kernel_rfl) (by simp) ?_
          refine AllReadyH.cons (o := ⟨none, _, _, _, _, _⟩) rfl (fun K hK => ?_) AllReadyH.nil
          go_simp
          refine hK.out _ _ trivial (fun hHeld => ?_)
          try simp only [Act.put, List.setIfInBounds_toArray, List.set_cons_zero, List.set_cons_succ]
          refine wpAnyH_done (by kernel_rfl) ?_ _
          go_wp2_with fail
          go_roundw
          case rel => exact ⟨i + 1, _, by have := HI1.out; omega, by rw [HI1.out]; go_num, CX.out, C2X.out, by rw [HSX.out]; exact SX.out, RX.out, EX, OB.out, FX⟩
          case measure => have hhh := HI1.out; simp [intOf]; omega
        · go_simp
          refine hK.out _ _ trivial (fun hHeld => ?_)
          try simp only [Act.put, List.setIfInBounds_toArray, List.set_cons_zero, List.set_cons_succ]
          refine wpAnyH_ready (rs := [1]) (by kernel_rfl) (by simp) ?_
          refine AllReadyH.cons (o := ⟨some 57, _, _, _, _, _⟩) rfl (fun K hK => ?_) AllReadyH.nil
          go_simp
          refine hK.out _ _ trivial (fun hHeld => ?_)
          try simp only [Act.put, List.setIfInBounds_toArray, List.set_cons_zero, List.set_cons_succ]
          refine wpAnyH_ready (rs := [23]) (by kernel_rfl) (by simp) ?_
          refine AllReadyH.cons (o := ⟨some 79, _, _, _, _, _⟩) rfl (fun K hK => ?_) AllReadyH.nil
          go_simp
          rw [EA.out]
          go_simp
          refine hK.out _ _ trivial (fun hHeld => ?_)
          try simp only [Act.put, List.setIfInBounds_toArray, List.set_cons_zero, List.set_cons_succ]
          refine wpAnyH_take (i := 24) (oi := ⟨some 80, _, _, _, _, _⟩) (v := ?_) rfl (by kernel_rfl) (by kernel_rfl) (by kernel_rfl) (fun _ _ _ h => h) (Or.inl ⟨by kernel_rfl, ?_⟩) (by assumption) ?_
          rotate_left
          · (intro w hSw; (try dsimp only at hSw); go_simp; (try (with_reducible rfl)))
          try simp only [Act.put, List.setIfInBounds_toArray, List.set_cons_zero, List.set_cons_succ]
          refine wpAnyH_ready (rs := [25]) (by kernel_rfl) (by simp) ?_
          refine AllReadyH.cons (o := ⟨none, _, _, _, _, _⟩) rfl (fun K hK => ?_) AllReadyH.nil
          go_simp
          refine hK.out _ _ trivial (fun hHeld => ?_)
          try simp only [Act.put, List.setIfInBounds_toArray, List.set_cons_zero, List.set_cons_succ]
          refine wpAnyH_done (by kernel_rfl) ?_ _
          go_wp2_with fail
          go_roundw
          case rel => exact ⟨i + 1, _, by have := HI1.out; omega, by rw [HI1.out]; go_num, CX.out, C2X.out, by rw [HSX.out]; exact SX.out, RX.out, EX, OB.out, FX⟩
          case measure => have hhh := HI1.out; simp [intOf]; omega
      · have HOK := Lib.hid hok
        have HNO := Lib.hid (show ¬ ReadOk (r0 :: rest) from fun hx => hok (by rw [← HTT.out]; exact hx.2.1 _ (by rw [List.tail_cons]; exact List.getElem_mem h)))
        have f0 : wr.frozen? ⟨w.heap.size, 0, none⟩ = false := C2.frozen 0 (by simp)
        have f1 : wr.frozen? ⟨w.heap.size, 1, none⟩ = false := C2.frozen 1 (by simp)
        have z0 : wr.cell? ⟨w.heap.size, 0, none⟩ = some (.bool false) := C2.cell_some (i := 0) rfl
        have z1 : wr.cell? ⟨w.heap.size, 1, none⟩ = some (.slice none 0 0) := C2.cell_some (i := 1) rfl
        have CX := Lib.hid ((C2.set_ 0 (.bool false)).set_ 1 (.slice none 0 0))
        have OX := Lib.hid ((((Only.of_below (S := []) O).setCell (p := ⟨w.heap.size, 0, none⟩) (fun h => absurd h (by simp)) (.bool false)).setCell (p := ⟨w.heap.size, 1, none⟩) (fun h => absurd h (by simp)) (.slice none 0 0)).below_nil)
        unfold entryOk at hok
        clear C6 C2 RS O S
        by_cases h3 : T.size < 3
        · have h3I : (T.size : Int) < 3 := by omega
          clear hok
          go_wp2_with fail
          exact bodyPost_ret (ret_rnode2 rfl rfl CX.out) rfl ⟨.inl ⟨HNO.out, rfl⟩, OX.out⟩
        · have h0 : 0 < T.size := by omega
          have h1 : (0 : Int) < (T.size : Int) := by omega
          have hk : entryK T = T[0].toNat := by unfold entryK; rw [getD_size _ _ h0]
          rw [hk] at hok
          have b0 := T[0].toNat_lt
          have h3I : ¬ (T.size : Int) < 3 := by omega
          have h2 : (T.size : Int) < 3 + (T[0].toNat : Int) := by omega
          have e4 : IntKind.i64.wrap (T[0].toNat : Int) = (T[0].toNat : Int) := IntWalk.i64_in _ (by omega)
          have e5 : IntKind.i64.wrap (3 + (T[0].toNat : Int)) = 3 + (T[0].toNat : Int) := IntWalk.i64_in _ (by omega)
          clear hok hk
          go_wp2_with fail
          exact bodyPost_ret (ret_rnode2 rfl rfl CX.out) rfl ⟨.inl ⟨HNO.out, rfl⟩, OX.out⟩
    · obtain rfl : i = rest.length := by omega
      rw [List.take_length] at S EO
      have HE := Lib.hid (show readE (r0 :: rest) = rest.map fun r => entryE ⟨r.toArray⟩ from rfl)
      have HLF := Lib.hid (show leafR (r0 :: rest) = true from by simp [leafR, HR0.out])
      rw [← HE.out] at S
      obtain ⟨-, EN⟩ := Slc.ents S
      obtain ⟨b, hb⟩ := bool_of (mayP (readE (r0 :: rest)) true)
      have KM := Lib.hid (right_ref (w := wr) true VA rest.length vc (readE (r0 :: rest)) EN (by omega) b hb)
      have HF := Lib.hid (show (mayP (readE (r0 :: rest)) true → ReadOk (r0 :: rest)) ∧ (ReadOk (r0 :: rest) → mayP (readE (r0 :: rest)) true) from ⟨fun hm => ⟨by rw [HR0.out]; simp, EO.out, by rw [HLF.out]; exact hm⟩, fun hx => by have := hx.2.2; rw [HLF.out] at this; exact this⟩)
      have d0 : wr.cell? ⟨w.heap.size + 1, 0, none⟩ = some (.bool true) := C6.cell_some (i := 0) rfl
      have d1 : wr.cell? ⟨w.heap.size + 1, 1, none⟩ = some (.slice VA rest.length vc) := C6.cell_some (i := 1) rfl
      have SL := Lib.hid S
      have CL := Lib.hid C6
      have C2L := Lib.hid C2
      have OL := Lib.hid O
      unfold nodeV at KM
      clear S C6 C2 RS O EN
      go_wp2_with fail
      refine KM.out.mono ?_
      rintro e' w2 ⟨rfl, hb2⟩
      have CW := C2L.out.below hb2 C2L.out.lt
      have CN := CL.out.below hb2 CL.out.lt
      have f0 : w2.frozen? ⟨w.heap.size, 0, none⟩ = false := CW.frozen 0 (by simp)
      have f1 : w2.frozen? ⟨w.heap.size, 1, none⟩ = false := CW.frozen 1 (by simp)
      have z0 : w2.cell? ⟨w.heap.size, 0, none⟩ = some (.bool false) := CW.cell_some (i := 0) rfl
      have z1 : w2.cell? ⟨w.heap.size, 1, none⟩ = some (.slice none 0 0) := CW.cell_some (i := 1) rfl
      have y0 : w2.cell? ⟨w.heap.size + 1, 0, none⟩ = some (.bool true) := CN.cell_some (i := 0) rfl
      have y1 : w2.cell? ⟨w.heap.size + 1, 1, none⟩ = some (.slice VA rest.length vc) := CN.cell_some (i := 1) rfl
      have hwlt := C2L.out.lt
      cases b
      · have HNO := Lib.hid (show ¬ ReadOk (r0 :: rest) from fun hx => by have := hb.2 (HF.out.2 hx); cases this)
        have CX := Lib.hid ((CW.set_ 0 (.bool false)).set_ 1 (.slice none 0 0))
        have OX := Lib.hid ((((Only.of_below (S := []) (bstep OL.out hb2)).setCell (p := ⟨w.heap.size, 0, none⟩) (fun h => absurd h (by simp)) (.bool false)).setCell (p := ⟨w.heap.size, 1, none⟩) (fun h => absurd h (by simp)) (.slice none 0 0)).below_nil)
        clear CW CN hb2 hb d0 d1
        go_wp2_with fail
        exact bodyPost_ret (ret_rnode2 rfl rfl CX.out) rfl ⟨.inl ⟨HNO.out, rfl⟩, OX.out⟩
      · have HYES := Lib.hid (HF.out.1 (hb.1 rfl))
        have CX := Lib.hid ((CW.set_ 0 (.bool true)).set_ 1 (.slice VA rest.length vc))
        have OX := Lib.hid ((((Only.of_below (S := []) (bstep OL.out hb2)).setCell (p := ⟨w.heap.size, 0, none⟩) (fun h => absurd h (by simp)) (.bool true)).setCell (p := ⟨w.heap.size, 1, none⟩) (fun h => absurd h (by simp)) (.slice VA rest.length vc)).below_nil)
        have SX := Lib.hid ((SL.out.below hb2).only (((Only.refl [w.heap.size] w2).setCell (p := ⟨w.heap.size, 0, none⟩) (fun _ => by simp) (.bool true)).setCell (p := ⟨w.heap.size, 1, none⟩) (fun _ => by simp) (.slice VA rest.length vc)) (fun x hx => by simp; exact fun hxx => hg2 (hxx ▸ hx)))
        clear CW CN hb2 hb d0 d1
        go_wp2_with fail
        exact bodyPost_ret (ret_rnode2 rfl rfl CX.out) rfl ⟨.inr ⟨HYES.out, VA, rest.length, vc, by rw [HLF.out]; rfl, SX.out, Lib.hid (fun x hx => by have := F.out x hx; omega)⟩, OX.out⟩
set_option maxRecDepth 100000 in
set_option maxHeartbeats 3000000 in
theorem rread_many_false {w : World} (A : Option Addr) (c : Nat) (r0 : List UInt8) (rest : List (List UInt8)) (hr0 : r0 = [2]) (S : Slc w 9 1 (.slice A (r0 :: rest).length c) (r0 :: rest).length (strs (r0 :: rest))) (hrs : (r0 :: rest).length ≤ 100) (hsm : ∀ r ∈ (r0 :: rest), r.length ≤ 300) :
    Calls Try.prog 21 #[.slice A (r0 :: rest).length c] w (RReadOf (r0 :: rest) w) := by
  have B0 := Lib.hid (Blk.new w 24 #[.bool false, .slice none 0 0])
  have O0 := Lib.hid (belowAlloc (Below.refl w.heap.size w) (.cells #[.bool false, .slice none 0 0] 24))
  have f0 : (w.alloc (.cells #[.bool false, .slice none 0 0] 24)).frozen? ⟨w.heap.size, 0, none⟩ = false := B0.out.frozen 0 (by simp)
  have f1 : (w.alloc (.cells #[.bool false, .slice none 0 0] 24)).frozen? ⟨w.heap.size, 1, none⟩ = false := B0.out.frozen 1 (by simp)
  have z0 : (w.alloc (.cells #[.bool false, .slice none 0 0] 24)).cell? ⟨w.heap.size, 0, none⟩ = some (.bool false) := B0.out.cell_some (i := 0) rfl
  have z1 : (w.alloc (.cells #[.bool false, .slice none 0 0] 24)).cell? ⟨w.heap.size, 1, none⟩ = some (.slice none 0 0) := B0.out.cell_some (i := 1) rfl
  have BZ := Lib.hid ((B0.out.set_ 0 (.bool false)).set_ 1 (.slice none 0 0))
  have OZ := Lib.hid (((((Only.of_below (S := []) O0.out).setCell (p := ⟨w.heap.size, 0, none⟩) (fun h => absurd h (by simp)) (.bool false)).setCell (p := ⟨w.heap.size, 1, none⟩) (fun h => absurd h (by simp)) (.slice none 0 0))).below_nil)
  obtain ⟨g, rfl, ck⟩ := str_cell S 0 (by simp)
  have hgl : g < w.heap.size := S.lt g (by simp [ownB])
  have ck0 : (w.alloc (.cells #[.bool false, .slice none 0 0] 24)).cell? ⟨g, 0, none⟩ = some (.string ⟨r0.toArray⟩) := (O0.out.cell (p := ⟨g, 0, none⟩) hgl).trans ck
  have SS := Lib.hid S
  have hsm := Lib.hid hsm
  have hrl : rest.length + 1 ≤ 100 := hrs
  have hl1 : (r0 :: rest).length = rest.length + 1 := rfl
  rw [hl1] at SS
  rw [hl1]
  clear ck S hrs hl1
  obtain ⟨K0, hK0⟩ : ∃ K0 : ByteArray, (⟨r0.toArray⟩ : ByteArray) = K0 := ⟨_, rfl⟩
  rw [hK0] at ck0
  have hKL : K0.toList = r0 := by rw [bytes_toList, ← hK0]
  clear hK0
  have n1 : ¬ (rest.length : Int) + 1 = 0 := by omega
  have n2 : ((rest.length : Int) + 1 == 0) = false := by simpa using n1
  have hk : K0.toList = [2] := by rw [hKL]; exact hr0
  have HR0 := Lib.hid hr0
  have k1 : (K0.toList == [1]) = false := by rw [hk]; decide
  have k2 : (K0.toList == [2]) = true := by rw [hk]; decide
  have k3 : ¬ K0.toList = [1] := by rw [hk]; decide
  clear hKL hk hr0
  have R2 := Lib.hid (B0.out.alloc (.cells #[.bool false, .slice none 0 0] 24))
  have R4 := Blk.new (w.alloc (.cells #[.bool false, .slice none 0 0] 24)) 24 #[.bool false, .slice none 0 0]
  rw [asz] at R4
  have R4 := Lib.hid R4
  have RO := Lib.hid (belowAlloc O0.out (.cells #[.bool false, .slice none 0 0] 24))
  have RSS := Lib.hid ((SS.out.alloc (.cells #[.bool false, .slice none 0 0] 24)).alloc (.cells #[.bool false, .slice none 0 0] 24))
  unfold RReadOf nodeV
  go_enter Try.func21, Try.ntmps21
  go_wp2_with fail
  generalize hW6 : ((w.alloc (.cells #[.bool false, .slice none 0 0] 24)).alloc (.cells #[.bool false, .slice none 0 0] 24)) = W6 at *
  clear hW6 f0 f1 z0 z1 ck0
  go_loopw [5] (fun iv wr => ∃ (i : Nat) (v' : Value), i ≤ rest.length ∧ iv = .int .i64 ((i + 1 : Nat) : Int) ∧ Blk wr (w.heap.size + 1) 24 #[.bool false, v'] ∧ Blk wr w.heap.size 24 #[.bool false, .slice none 0 0] ∧ Slc wr 50 3 v' i (ents ((rest.take i).map fun r => entryE ⟨r.toArray⟩)) ∧ Slc wr 9 1 (.slice (some ⟨g, 0, none⟩) (rest.length + 1) c) (rest.length + 1) (strs (r0 :: rest)) ∧ Hid (∀ r ∈ rest.take i, entryOk ⟨r.toArray⟩) ∧ Below w.heap.size w wr ∧ Hid (∀ x ∈ ownB v', w.heap.size + 2 ≤ x)) (fun iv _ => rest.length + 1 - (intOf iv).toNat)
  case atStart => exact ⟨0, _, Nat.zero_le _, rfl, R4.out, R2.out, Slc.nil _ _ _, RSS.out, Lib.hid (by simp), RO.out, Lib.hid (fun x hx => by simp [ownB] at hx)⟩
  case round =>
    obtain ⟨i, v', hi, rfl, C6, C2, S, RS, EO, O, F⟩ := hrel
    obtain ⟨VA, vc, rfl⟩ := slc_val S
    have hltr := C6.lt
    have hg6 : w.heap.size + 1 ∉ ownB (.slice VA i vc) := fun hx => by have := F.out _ hx; omega
    have hg2 : w.heap.size ∉ ownB (.slice VA i vc) := fun hx => by have := F.out _ hx; omega
    have hgg : g ∉ ownB (.slice VA i vc) := fun hx => by have := F.out _ hx; omega
    by_cases h : i < rest.length
    · obtain ⟨g', hgx, ck⟩ := str_cell RS (i + 1) (by simp; omega)
      simp only [Option.some.injEq, Addr.mk.injEq, and_true] at hgx
      subst hgx
      have hri : (r0 :: rest)[i + 1]'(by simp; omega) = rest[i] := List.getElem_cons_succ ..
      rw [hri] at ck
      have hsz : rest[i].length ≤ 300 := hsm.out _ (List.mem_cons_of_mem _ (List.getElem_mem h))
      have HT := Lib.hid (List.take_succ_eq_append_getElem h)
      obtain ⟨T, hT⟩ : ∃ T : ByteArray, (⟨rest[i].toArray⟩ : ByteArray) = T := ⟨_, rfl⟩
      have hTs : T.size ≤ 300 := by rw [← hT, Sl.size_of_list]; exact hsz
      rw [hT] at ck
      have HTT := Lib.hid hT
      have hiI : ((i + 1 : Nat) : Int) < (rest.length : Int) + 1 := by omega
      have hiN : i + 1 < rest.length + 1 := by omega
      obtain ⟨i1, hi1⟩ : ∃ i1 : Nat, i + 1 = i1 := ⟨_, rfl⟩
      have HI1 := Lib.hid hi1
      rw [hi1] at ck hiI hiN ⊢
      clear hT hri hsz hi1
      by_cases hok : entryOk T
      · have HOK := Lib.hid hok
        unfold entryOk at hok
        have h0 : 0 < T.size := by omega
        have h1 : (0 : Int) < (T.size : Int) := by omega
        have hk : entryK T = T[0].toNat := by unfold entryK; rw [getD_size _ _ h0]
        rw [hk] at hok
        have b0 := T[0].toNat_lt
        have h3 : ¬ (T.size : Int) < 3 := by omega
        have h2 : ¬ (T.size : Int) < 3 + (T[0].toNat : Int) := by omega
        have e4 : IntKind.i64.wrap (T[0].toNat : Int) = (T[0].toNat : Int) := IntWalk.i64_in _ (by omega)
        have e5 : IntKind.i64.wrap (3 + (T[0].toNat : Int)) = 3 + (T[0].toNat : Int) := IntWalk.i64_in _ (by omega)
        have e6 : IntKind.i64.wrap ((T[0].toNat : Int) + 1) = (T[0].toNat : Int) + 1 := IntWalk.i64_in _ (by omega)
        obtain ⟨k, hkk⟩ : ∃ k, T[0].toNat + 1 = k := ⟨_, rfl⟩
        have hkI : (T[0].toNat : Int) + 1 = ((k : Nat) : Int) := by omega
        have hk1 : k < T.size := by omega
        have hk2 : k + 1 < T.size := by omega
        have b1 := T[k].toNat_lt
        have b2 := T[k + 1].toNat_lt
        have g6 : wr.cell? ⟨w.heap.size + 1, 1, none⟩ = some (.slice VA i vc) := C6.cell_some (i := 1) rfl
        obtain ⟨e, he⟩ : ∃ e : E, e = ⟨T.extract 1 k, T.extract (k + 2) T.size, (T[k].toNat : Int) * 256 + (T[k + 1].toNat : Int) - 1⟩ := ⟨_, rfl⟩
        have HE := Lib.hid (show entryE T = e from by
          rw [he]
          unfold entryE
          rw [hk, show 1 + T[0].toNat = k by omega, show 3 + T[0].toNat = k + 2 by omega]
          congr 1
          unfold at2
          rw [getD_size _ _ hk1, getD_size _ _ hk2]
          omega)
        obtain ⟨v2, w3, ea, S3, ow, f3⟩ := append_ent (P := Try.prog) S.drew 22 22 (.agg #[.string .empty, .string .empty, .int .i64 0]) 40 Try.underlying22 (by kernel_rfl) rfl e (by unfold maxLen; omega) (by omega)
        obtain ⟨V2, vc2, rfl⟩ := slc_val S3
        have ea2 : appRun Try.prog 22 22 (wr.alloc (.cells #[.string e.key, .string e.val, .int .i64 e.far] 50)).drew (.slice VA i vc) (.slice (some ⟨wr.heap.size, 0, none⟩) 1 1) = .ok (.slice V2 (i + 1) vc2) w3 := ea
        have OD := Lib.hid ((Only.refl (ownB (.slice VA i vc)) wr).drew)
        have OW := OD.out.trans ow
        have CW := C6.drew.only ow hg6
        have fz : w3.frozen? ⟨w.heap.size + 1, 1, none⟩ = false := CW.frozen 1 (by simp)
        have cz : w3.cell? ⟨w.heap.size + 1, 1, none⟩ = some (.slice VA i vc) := CW.cell_some (i := 1) rfl
        have OX := OW.mono (S' := (w.heap.size + 1) :: ownB (.slice VA i vc)) (fun x hx _ => List.mem_cons_of_mem _ hx) |>.setCell (p := ⟨w.heap.size + 1, 1, none⟩) (fun _ => by simp) (.slice V2 (i + 1) vc2)
        have CX := Lib.hid (CW.set_ 1 (.slice V2 (i + 1) vc2))
        have C2X := Lib.hid (C2.only OX (by simp; exact hg2))
        have RX := Lib.hid (RS.only OX (fun x hx => by simp [ownB] at hx; subst hx; simp; exact ⟨by omega, hgg⟩))
        have hv2 : ∀ x ∈ ownB (.slice V2 (i + 1) vc2), w.heap.size + 2 ≤ x := fun x hx => (f3 x hx).elim (F.out x) (fun h => by have h : wr.heap.size ≤ x := h; omega)
        have FX := Lib.hid hv2
        have SX := Lib.hid (S3.only ((Only.refl [w.heap.size + 1] w3).setCell (p := ⟨w.heap.size + 1, 1, none⟩) (fun _ => by simp) (.slice V2 (i + 1) vc2)) (fun x hx => by have := hv2 x hx; simp; omega))
        have OB := Lib.hid (O.trans (OX.below_of O.size (fun x hx => by
          rcases List.mem_cons.1 hx with rfl | hx
          · omega
          · have := F.out x hx; omega)))
        have HSX := Lib.hid (show ents ((rest.take (i + 1)).map fun r => entryE ⟨r.toArray⟩) = ents ((rest.take i).map fun r => entryE ⟨r.toArray⟩) ++ e.cells from by
          rw [HT.out, List.map_append, ents_append, List.map_cons, HTT.out, HE.out]; simp [ents])
        have EX := Lib.hid (show ∀ r ∈ rest.take (i + 1), entryOk ⟨r.toArray⟩ from fun r hr => by
          rw [HT.out] at hr
          rcases List.mem_append.1 hr with hr | hr
          · exact EO.out r hr
          · simp only [List.mem_singleton] at hr
            rw [hr, HTT.out]; exact HOK.out)
        have hee : e.key = T.extract 1 k ∧ e.val = T.extract (k + 2) T.size ∧ e.far = (T[k].toNat : Int) * 256 + (T[k + 1].toNat : Int) - 1 := by rw [he]; exact ⟨rfl, rfl, rfl⟩
        rw [hee.1, hee.2.1, hee.2.2] at ea2
        have EA := Lib.hid ea2
        clear hee ea ea2 S3 ow f3 OW CW OX hv2 C6 C2 RS O S he hok hk
        have y1 : IntKind.i64.wrap ((k : Int) + 1) = (k : Int) + 1 := IntWalk.i64_in _ (by omega)
        have y2 : (0 : Int) ≤ (k : Int) + 1 := by omega
        have y3 : ((k : Int) + 1).toNat = k + 1 := by omega
        have y7 : (k : Int) + 1 < (T.size : Int) := by omega
        have y8 : (k : Int) < (T.size : Int) := by omega
        have v1 : IntKind.i64.wrap (T[k].toNat : Int) = (T[k].toNat : Int) := IntWalk.i64_in _ (by omega)
        have v2 : IntKind.i64.wrap ((T[k].toNat : Int) * 256) = (T[k].toNat : Int) * 256 := IntWalk.i64_in _ (by omega)
        have v3 : IntKind.i64.wrap (T[k + 1].toNat : Int) = (T[k + 1].toNat : Int) := IntWalk.i64_in _ (by omega)
        have v4 : IntKind.i64.wrap ((T[k].toNat : Int) * 256 + (T[k + 1].toNat : Int)) = (T[k].toNat : Int) * 256 + (T[k + 1].toNat : Int) := IntWalk.i64_in _ (by omega)
        have v5 : IntKind.i64.wrap ((T[k].toNat : Int) * 256 + (T[k + 1].toNat : Int) - 1) = (T[k].toNat : Int) * 256 + (T[k + 1].toNat : Int) - 1 := IntWalk.i64_in _ (by omega)
        have x1 : IntKind.i64.wrap ((k : Int) + 2) = (k : Int) + 2 := IntWalk.i64_in _ (by omega)
        have x2 : (0 : Int) ≤ (k : Int) + 2 := by omega
        have x3 : ((k : Int) + 2).toNat = k + 2 := by omega
        have x4 : (k : Int) + 2 ≤ (T.size : Int) := by omega
        have x5 : (k : Int) ≤ (T.size : Int) := by omega
        have x6 : (1 : Int) ≤ (k : Int) := by omega
        go_wp2_with fail
        refine wp_region_held_drew (S := fun _ => True) (by kernel_rfl) trivial (fun hHeld => ?_)
        refine wpAnyH_take (i := 0) (oi := ⟨some 56, _, _, _, _, _⟩) (v := ?_) rfl (by kernel_rfl) (by kernel_rfl) (by kernel_rfl) (fun _ _ _ h => h) (Or.inl ⟨by kernel_rfl, ?_⟩) (by assumption) ?_
        rotate_left
        · (intro w hSw; (try dsimp only at hSw); go_simp; (try (with_reducible rfl)))
        try simp only [Act.put, List.setIfInBounds_toArray, List.set_cons_zero, List.set_cons_succ]
        refine wpAnyH_take (i := 2) (oi := ⟨some 58, _, _, _, _, _⟩) (v := ?_) rfl (by kernel_rfl) (by kernel_rfl) (by kernel_rfl) (fun _ _ _ h => h) (Or.inl ⟨by kernel_rfl, ?_⟩) (by assumption) ?_
        rotate_left
        · (intro w hSw; (try dsimp only at hSw); go_simp; (try (with_reducible rfl)))
        try simp only [Act.put, List.setIfInBounds_toArray, List.set_cons_zero, List.set_cons_succ]
        refine wpAnyH_take (i := 3) (oi := ⟨some 59, _, _, _, _, _⟩) (v := ?_) rfl (by kernel_rfl) (by kernel_rfl) (by kernel_rfl) (fun _ _ _ h => h) (Or.inl ⟨by kernel_rfl, ?_⟩) (by assumption) ?_
        rotate_left
        · (intro w hSw; (try dsimp only at hSw); go_simp; (try (with_reducible rfl)))
        try simp only [Act.put, List.setIfInBounds_toArray, List.set_cons_zero, List.set_cons_succ]
        refine wpAnyH_take (i := 4) (oi := ⟨some 60, _, _, _, _, _⟩) (v := ?_) rfl (by kernel_rfl) (by kernel_rfl) (by kernel_rfl) (fun _ _ _ h => h) (Or.inl ⟨by kernel_rfl, ?_⟩) (by assumption) ?_
        rotate_left
        · (intro w hSw; (try dsimp only at hSw); go_simp; (try (with_reducible rfl)))
        try simp only [Act.put, List.setIfInBounds_toArray, List.set_cons_zero, List.set_cons_succ]
        refine wpAnyH_take (i := 5) (oi := ⟨some 61, _, _, _, _, _⟩) (v := ?_) rfl (by kernel_rfl) (by kernel_rfl) (by kernel_rfl) (fun _ _ _ h => h) (Or.inl ⟨by kernel_rfl, ?_⟩) (by assumption) ?_
        rotate_left
        · (intro w hSw; (try dsimp only at hSw); go_simp; (try (with_reducible rfl)))
        try simp only [Act.put, List.setIfInBounds_toArray, List.set_cons_zero, List.set_cons_succ]
        refine wpAnyH_take (i := 6) (oi := ⟨some 62, _, _, _, _, _⟩) (v := ?_) rfl (by kernel_rfl) (by kernel_rfl) (by kernel_rfl) (fun _ _ _ h => h) (Or.inl ⟨by kernel_rfl, ?_⟩) (by assumption) ?_
        rotate_left
        · (intro w hSw; (try dsimp only at hSw); go_simp; (try (with_reducible rfl)))
        try simp only [Act.put, List.setIfInBounds_toArray, List.set_cons_zero, List.set_cons_succ]
        refine wpAnyH_take (i := 7) (oi := ⟨some 63, _, _, _, _, _⟩) (v := ?_) rfl (by kernel_rfl) (by kernel_rfl) (by kernel_rfl) (fun _ _ _ h => h) (Or.inl ⟨by kernel_rfl, ?_⟩) (by assumption) ?_
        rotate_left
        · (intro w hSw; (try dsimp only at hSw); go_simp; (try (with_reducible rfl)))
        try simp only [Act.put, List.setIfInBounds_toArray, List.set_cons_zero, List.set_cons_succ]
        refine wpAnyH_take (i := 8) (oi := ⟨some 64, _, _, _, _, _⟩) (v := ?_) rfl (by kernel_rfl) (by kernel_rfl) (by kernel_rfl) (fun _ _ _ h => h) (Or.inl ⟨by kernel_rfl, ?_⟩) (by assumption) ?_
        rotate_left
        · (intro w hSw; (try dsimp only at hSw); go_simp; (try (with_reducible rfl)))
        try simp only [Act.put, List.setIfInBounds_toArray, List.set_cons_zero, List.set_cons_succ]
        refine wpAnyH_take (i := 9) (oi := ⟨some 65, _, _, _, _, _⟩) (v := ?_) rfl (by kernel_rfl) (by kernel_rfl) (by kernel_rfl) (fun _ _ _ h => h) (Or.inl ⟨by kernel_rfl, ?_⟩) (by assumption) ?_
        rotate_left
        · (intro w hSw; (try dsimp only at hSw); go_simp; (try (with_reducible rfl)))
        try simp only [Act.put, List.setIfInBounds_toArray, List.set_cons_zero, List.set_cons_succ]
        refine wpAnyH_take (i := 10) (oi := ⟨some 66, _, _, _, _, _⟩) (v := ?_) rfl (by kernel_rfl) (by kernel_rfl) (by kernel_rfl) (fun _ _ _ h => h) (Or.inl ⟨by kernel_rfl, ?_⟩) (by assumption) ?_
        rotate_left
        · (intro w hSw; (try dsimp only at hSw); go_simp; (try (with_reducible rfl)))
        try simp only [Act.put, List.setIfInBounds_toArray, List.set_cons_zero, List.set_cons_succ]
        refine wpAnyH_take (i := 11) (oi := ⟨some 67, _, _, _, _, _⟩) (v := ?_) rfl (by kernel_rfl) (by kernel_rfl) (by kernel_rfl) (fun _ _ _ h => h) (Or.inl ⟨by kernel_rfl, ?_⟩) (by assumption) ?_
        rotate_left
        · (intro w hSw; (try dsimp only at hSw); go_simp; (try (with_reducible rfl)))
        try simp only [Act.put, List.setIfInBounds_toArray, List.set_cons_zero, List.set_cons_succ]
        refine wpAnyH_take (i := 12) (oi := ⟨some 68, _, _, _, _, _⟩) (v := ?_) rfl (by kernel_rfl) (by kernel_rfl) (by kernel_rfl) (fun _ _ _ h => h) (Or.inl ⟨by kernel_rfl, ?_⟩) (by assumption) ?_
        rotate_left
        · (intro w hSw; (try dsimp only at hSw); go_simp; (try (with_reducible rfl)))
        try simp only [Act.put, List.setIfInBounds_toArray, List.set_cons_zero, List.set_cons_succ]
        refine wpAnyH_take (i := 13) (oi := ⟨some 69, _, _, _, _, _⟩) (v := ?_) rfl (by kernel_rfl) (by kernel_rfl) (by kernel_rfl) (fun _ _ _ h => h) (Or.inl ⟨by kernel_rfl, ?_⟩) (by assumption) ?_
        rotate_left
        · (intro w hSw; (try dsimp only at hSw); go_simp; (try (with_reducible rfl)))
        try simp only [Act.put, List.setIfInBounds_toArray, List.set_cons_zero, List.set_cons_succ]
        refine wpAnyH_take (i := 14) (oi := ⟨some 70, _, _, _, _, _⟩) (v := ?_) rfl (by kernel_rfl) (by kernel_rfl) (by kernel_rfl) (fun _ _ _ h => h) (Or.inl ⟨by kernel_rfl, ?_⟩) (by assumption) ?_
        rotate_left
        · (intro w hSw; (try dsimp only at hSw); go_simp; (try (with_reducible rfl)))
        try simp only [Act.put, List.setIfInBounds_toArray, List.set_cons_zero, List.set_cons_succ]
        refine wpAnyH_take (i := 15) (oi := ⟨some 71, _, _, _, _, _⟩) (v := ?_) rfl (by kernel_rfl) (by kernel_rfl) (by kernel_rfl) (fun _ _ _ h => h) (Or.inl ⟨by kernel_rfl, ?_⟩) (by assumption) ?_
        rotate_left
        · (intro w hSw; (try dsimp only at hSw); go_simp; (try (with_reducible rfl)))
        try simp only [Act.put, List.setIfInBounds_toArray, List.set_cons_zero, List.set_cons_succ]
        refine wpAnyH_take (i := 16) (oi := ⟨some 72, _, _, _, _, _⟩) (v := ?_) rfl (by kernel_rfl) (by kernel_rfl) (by kernel_rfl) (fun _ _ _ h => h) (Or.inl ⟨by kernel_rfl, ?_⟩) (by assumption) ?_
        rotate_left
        · (intro w hSw; (try dsimp only at hSw); go_simp; (try (with_reducible rfl)))
        try simp only [Act.put, List.setIfInBounds_toArray, List.set_cons_zero, List.set_cons_succ]
        refine wpAnyH_take (i := 17) (oi := ⟨some 73, _, _, _, _, _⟩) (v := ?_) rfl (by kernel_rfl) (by kernel_rfl) (by kernel_rfl) (fun _ _ _ h => h) (Or.inl ⟨by kernel_rfl, ?_⟩) (by assumption) ?_
        rotate_left
        · (intro w hSw; (try dsimp only at hSw); go_simp; (try (with_reducible rfl)))
        try simp only [Act.put, List.setIfInBounds_toArray, List.set_cons_zero, List.set_cons_succ]
        refine wpAnyH_take (i := 18) (oi := ⟨some 74, _, _, _, _, _⟩) (v := ?_) rfl (by kernel_rfl) (by kernel_rfl) (by kernel_rfl) (fun _ _ _ h => h) (Or.inl ⟨by kernel_rfl, ?_⟩) (by assumption) ?_
        rotate_left
        · (intro w hSw; (try dsimp only at hSw); go_simp; (try (with_reducible rfl)))
        try simp only [Act.put, List.setIfInBounds_toArray, List.set_cons_zero, List.set_cons_succ]
        refine wpAnyH_take (i := 19) (oi := ⟨some 75, _, _, _, _, _⟩) (v := ?_) rfl (by kernel_rfl) (by kernel_rfl) (by kernel_rfl) (fun _ _ _ h => h) (Or.inl ⟨by kernel_rfl, ?_⟩) (by assumption) ?_
        rotate_left
        · (intro w hSw; (try dsimp only at hSw); go_simp; (try (with_reducible rfl)))
        try simp only [Act.put, List.setIfInBounds_toArray, List.set_cons_zero, List.set_cons_succ]
        refine wpAnyH_take (i := 20) (oi := ⟨some 76, _, _, _, _, _⟩) (v := ?_) rfl (by kernel_rfl) (by kernel_rfl) (by kernel_rfl) (fun _ _ _ h => h) (Or.inl ⟨by kernel_rfl, ?_⟩) (by assumption) ?_
        rotate_left
        · (intro w hSw; (try dsimp only at hSw); go_simp; (try (with_reducible rfl)))
        try simp only [Act.put, List.setIfInBounds_toArray, List.set_cons_zero, List.set_cons_succ]
        refine wpAnyH_take (i := 21) (oi := ⟨some 77, _, _, _, _, _⟩) (v := ?_) rfl (by kernel_rfl) (by kernel_rfl) (by kernel_rfl) (fun _ _ _ h => h) (Or.inl ⟨by kernel_rfl, ?_⟩) (by assumption) ?_
        rotate_left
        · (intro w hSw; (try dsimp only at hSw); go_simp; (try (with_reducible rfl)))
        try simp only [Act.put, List.setIfInBounds_toArray, List.set_cons_zero, List.set_cons_succ]
        refine wpAnyH_ready (rs := [1, 22]) (by kernel_rfl) (by simp) ?_
        refine AllReadyH.cons (o := ⟨some 57, _, _, _, _, _⟩) rfl (fun K hK => ?_) (AllReadyH.cons (o := ⟨some 78, _, _, _, _, _⟩) rfl (fun K hK => ?_) AllReadyH.nil)
        · go_simp
          refine hK.out _ _ trivial (fun hHeld => ?_)
          try simp only [Act.put, List.setIfInBounds_toArray, List.set_cons_zero, List.set_cons_succ]
          refine wpAnyH_ready (rs := [22]) (by kernel_rfl) (by simp) ?_
          refine AllReadyH.cons (o := ⟨some 78, _, _, _, _, _⟩) rfl (fun K hK => ?_) AllReadyH.nil
          go_simp
          refine hK.out _ _ trivial (fun hHeld => ?_)
          try simp only [Act.put, List.setIfInBounds_toArray, List.set_cons_zero, List.set_cons_succ]
          refine wpAnyH_ready (rs := [23]) (by kernel_rfl) (by simp) ?_
          refine AllReadyH.cons (o := ⟨some 79, _, _, _, _, _⟩) rfl (fun K hK => ?_) AllReadyH.nil
          go_simp
          rw [EA.out]
          go_simp
          refine hK.out _ _ trivial (fun hHeld => ?_)
          try simp only [Act.put, List.setIfInBounds_toArray, List.set_cons_zero, List.set_cons_succ]
          refine wpAnyH_take (i := 24) (oi := ⟨some 80, _, _, _, _, _⟩) (v := ?_) rfl (by kernel_rfl) (by kernel_rfl) (by kernel_rfl) (fun _ _ _ h => h) (Or.inl ⟨by kernel_rfl, ?_⟩) (by assumption) ?_
          rotate_left
          · (intro w hSw; (try dsimp only at hSw); go_simp; (try (with_reducible rfl)))
          try simp only [Act.put, List.setIfInBounds_toArray, List.set_cons_zero, List.set_cons_succ]
          refine wpAnyH_ready (rs := [25]) (by kernel_rfl) (by simp) ?_
          refine AllReadyH.cons (o := ⟨none, _, _, _, _, _⟩) rfl (fun K hK => ?_) AllReadyH.nil
          go_simp
          refine hK.out _ _ trivial (fun hHeld => ?_)
          try simp only [Act.put, List.setIfInBounds_toArray, List.set_cons_zero, List.set_cons_succ]
          refine wpAnyH_done (by kernel_rfl) ?_ _
          go_wp2_with fail
          go_roundw
          case rel => exact ⟨i + 1, _, by have := HI1.out; omega, by rw [HI1.out]; go_num, CX.out, C2X.out, by rw [HSX.out]; exact SX.out, RX.out, EX, OB.out, FX⟩
          case measure => have hhh := HI1.out; simp [intOf]; omega
        · go_simp
          refine hK.out _ _ trivial (fun hHeld => ?_)
          try simp only [Act.put, List.setIfInBounds_toArray, List.set_cons_zero, List.set_cons_succ]
          refine wpAnyH_ready (rs := [1]) (by kernel_rfl) (by simp) ?_
          refine AllReadyH.cons (o := ⟨some 57, _, _, _, _, _⟩) rfl (fun K hK => ?_) AllReadyH.nil
          go_simp
          refine hK.out _ _ trivial (fun hHeld => ?_)
          try simp only [Act.put, List.setIfInBounds_toArray, List.set_cons_zero, List.set_cons_succ]
          refine wpAnyH_ready (rs := [23]) (by kernel_rfl) (by simp) ?_
          refine AllReadyH.cons (o := ⟨some 79, _, _, _, _, _⟩) rfl (fun K hK => ?_) AllReadyH.nil
          go_simp
          rw [EA.out]
          go_simp
          refine hK.out _ _ trivial (fun hHeld => ?_)
          try simp only [Act.put, List.setIfInBounds_toArray, List.set_cons_zero, List.set_cons_succ]
          refine wpAnyH_take (i := 24) (oi := ⟨some 80, _, _, _, _, _⟩) (v := ?_) rfl (by kernel_rfl) (by kernel_rfl) (by kernel_rfl) (fun _ _ _ h => h) (Or.inl ⟨by kernel_rfl, ?_⟩) (by assumption) ?_
          rotate_left
          · (intro w hSw; (try dsimp only at hSw); go_simp; (try (with_reducible rfl)))
          try simp only [Act.put, List.setIfInBounds_toArray, List.set_cons_zero, List.set_cons_succ]
          refine wpAnyH_ready (rs := [25]) (by kernel_rfl) (by simp) ?_
          refine AllReadyH.cons (o := ⟨none, _, _, _, _, _⟩) rfl (fun K hK => ?_) AllReadyH.nil
          go_simp
          refine hK.out _ _ trivial (fun hHeld => ?_)
          try simp only [Act.put, List.setIfInBounds_toArray, List.set_cons_zero, List.set_cons_succ]
          refine wpAnyH_done (by kernel_rfl) ?_ _
          go_wp2_with fail
          go_roundw
          case rel => exact ⟨i + 1, _, by have := HI1.out; omega, by rw [HI1.out]; go_num, CX.out, C2X.out, by rw [HSX.out]; exact SX.out, RX.out, EX, OB.out, FX⟩
          case measure => have hhh := HI1.out; simp [intOf]; omega
      · have HOK := Lib.hid hok
        have HNO := Lib.hid (show ¬ ReadOk (r0 :: rest) from fun hx => hok (by rw [← HTT.out]; exact hx.2.1 _ (by rw [List.tail_cons]; exact List.getElem_mem h)))
        have f0 : wr.frozen? ⟨w.heap.size, 0, none⟩ = false := C2.frozen 0 (by simp)
        have f1 : wr.frozen? ⟨w.heap.size, 1, none⟩ = false := C2.frozen 1 (by simp)
        have z0 : wr.cell? ⟨w.heap.size, 0, none⟩ = some (.bool false) := C2.cell_some (i := 0) rfl
        have z1 : wr.cell? ⟨w.heap.size, 1, none⟩ = some (.slice none 0 0) := C2.cell_some (i := 1) rfl
        have CX := Lib.hid ((C2.set_ 0 (.bool false)).set_ 1 (.slice none 0 0))
        have OX := Lib.hid ((((Only.of_below (S := []) O).setCell (p := ⟨w.heap.size, 0, none⟩) (fun h => absurd h (by simp)) (.bool false)).setCell (p := ⟨w.heap.size, 1, none⟩) (fun h => absurd h (by simp)) (.slice none 0 0)).below_nil)
        unfold entryOk at hok
        clear C6 C2 RS O S
        by_cases h3 : T.size < 3
        · have h3I : (T.size : Int) < 3 := by omega
          clear hok
          go_wp2_with fail
          exact bodyPost_ret (ret_rnode2 rfl rfl CX.out) rfl ⟨.inl ⟨HNO.out, rfl⟩, OX.out⟩
        · have h0 : 0 < T.size := by omega
          have h1 : (0 : Int) < (T.size : Int) := by omega
          have hk : entryK T = T[0].toNat := by unfold entryK; rw [getD_size _ _ h0]
          rw [hk] at hok
          have b0 := T[0].toNat_lt
          have h3I : ¬ (T.size : Int) < 3 := by omega
          have h2 : (T.size : Int) < 3 + (T[0].toNat : Int) := by omega
          have e4 : IntKind.i64.wrap (T[0].toNat : Int) = (T[0].toNat : Int) := IntWalk.i64_in _ (by omega)
          have e5 : IntKind.i64.wrap (3 + (T[0].toNat : Int)) = 3 + (T[0].toNat : Int) := IntWalk.i64_in _ (by omega)
          clear hok hk
          go_wp2_with fail
          exact bodyPost_ret (ret_rnode2 rfl rfl CX.out) rfl ⟨.inl ⟨HNO.out, rfl⟩, OX.out⟩
    · obtain rfl : i = rest.length := by omega
      rw [List.take_length] at S EO
      have HE := Lib.hid (show readE (r0 :: rest) = rest.map fun r => entryE ⟨r.toArray⟩ from rfl)
      have HLF := Lib.hid (show leafR (r0 :: rest) = false from by simp [leafR, HR0.out])
      rw [← HE.out] at S
      obtain ⟨-, EN⟩ := Slc.ents S
      obtain ⟨b, hb⟩ := bool_of (mayP (readE (r0 :: rest)) false)
      have KM := Lib.hid (right_ref (w := wr) false VA rest.length vc (readE (r0 :: rest)) EN (by omega) b hb)
      have HF := Lib.hid (show (mayP (readE (r0 :: rest)) false → ReadOk (r0 :: rest)) ∧ (ReadOk (r0 :: rest) → mayP (readE (r0 :: rest)) false) from ⟨fun hm => ⟨by rw [HR0.out]; simp, EO.out, by rw [HLF.out]; exact hm⟩, fun hx => by have := hx.2.2; rw [HLF.out] at this; exact this⟩)
      have d0 : wr.cell? ⟨w.heap.size + 1, 0, none⟩ = some (.bool false) := C6.cell_some (i := 0) rfl
      have d1 : wr.cell? ⟨w.heap.size + 1, 1, none⟩ = some (.slice VA rest.length vc) := C6.cell_some (i := 1) rfl
      have SL := Lib.hid S
      have CL := Lib.hid C6
      have C2L := Lib.hid C2
      have OL := Lib.hid O
      unfold nodeV at KM
      clear S C6 C2 RS O EN
      go_wp2_with fail
      refine KM.out.mono ?_
      rintro e' w2 ⟨rfl, hb2⟩
      have CW := C2L.out.below hb2 C2L.out.lt
      have CN := CL.out.below hb2 CL.out.lt
      have f0 : w2.frozen? ⟨w.heap.size, 0, none⟩ = false := CW.frozen 0 (by simp)
      have f1 : w2.frozen? ⟨w.heap.size, 1, none⟩ = false := CW.frozen 1 (by simp)
      have z0 : w2.cell? ⟨w.heap.size, 0, none⟩ = some (.bool false) := CW.cell_some (i := 0) rfl
      have z1 : w2.cell? ⟨w.heap.size, 1, none⟩ = some (.slice none 0 0) := CW.cell_some (i := 1) rfl
      have y0 : w2.cell? ⟨w.heap.size + 1, 0, none⟩ = some (.bool false) := CN.cell_some (i := 0) rfl
      have y1 : w2.cell? ⟨w.heap.size + 1, 1, none⟩ = some (.slice VA rest.length vc) := CN.cell_some (i := 1) rfl
      have hwlt := C2L.out.lt
      cases b
      · have HNO := Lib.hid (show ¬ ReadOk (r0 :: rest) from fun hx => by have := hb.2 (HF.out.2 hx); cases this)
        have CX := Lib.hid ((CW.set_ 0 (.bool false)).set_ 1 (.slice none 0 0))
        have OX := Lib.hid ((((Only.of_below (S := []) (bstep OL.out hb2)).setCell (p := ⟨w.heap.size, 0, none⟩) (fun h => absurd h (by simp)) (.bool false)).setCell (p := ⟨w.heap.size, 1, none⟩) (fun h => absurd h (by simp)) (.slice none 0 0)).below_nil)
        clear CW CN hb2 hb d0 d1
        go_wp2_with fail
        exact bodyPost_ret (ret_rnode2 rfl rfl CX.out) rfl ⟨.inl ⟨HNO.out, rfl⟩, OX.out⟩
      · have HYES := Lib.hid (HF.out.1 (hb.1 rfl))
        have CX := Lib.hid ((CW.set_ 0 (.bool false)).set_ 1 (.slice VA rest.length vc))
        have OX := Lib.hid ((((Only.of_below (S := []) (bstep OL.out hb2)).setCell (p := ⟨w.heap.size, 0, none⟩) (fun h => absurd h (by simp)) (.bool false)).setCell (p := ⟨w.heap.size, 1, none⟩) (fun h => absurd h (by simp)) (.slice VA rest.length vc)).below_nil)
        have SX := Lib.hid ((SL.out.below hb2).only (((Only.refl [w.heap.size] w2).setCell (p := ⟨w.heap.size, 0, none⟩) (fun _ => by simp) (.bool false)).setCell (p := ⟨w.heap.size, 1, none⟩) (fun _ => by simp) (.slice VA rest.length vc)) (fun x hx => by simp; exact fun hxx => hg2 (hxx ▸ hx)))
        clear CW CN hb2 hb d0 d1
        go_wp2_with fail
        exact bodyPost_ret (ret_rnode2 rfl rfl CX.out) rfl ⟨.inr ⟨HYES.out, VA, rest.length, vc, by rw [HLF.out]; rfl, SX.out, Lib.hid (fun x hx => by have := F.out x hx; omega)⟩, OX.out⟩
theorem rread_any {w : World} (A : Option Addr) (c : Nat) (rs : List (List UInt8)) (S : Slc w 9 1 (.slice A rs.length c) rs.length (strs rs)) (hrs : rs.length ≤ 100) (hsm : ∀ r ∈ rs, r.length ≤ 300) :
    Calls Try.prog 21 #[.slice A rs.length c] w (RReadOf rs w) := by
  match rs with
  | [] => exact rread_nil A c S hrs hsm
  | r0 :: rest =>
    by_cases h1 : r0 = [1]
    · exact rread_many_true A c r0 rest h1 S hrs hsm
    · by_cases h2 : r0 = [2]
      · exact rread_many_false A c r0 rest h2 S hrs hsm
      · exact rread_odd A c r0 rest h1 h2 S hrs hsm
end Go.Proofs.Yticehnnbjbliaab.Nd
