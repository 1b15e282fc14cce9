/- what the laws read of a store's pages: bytes; the pages that the root reaches. -/
import Derived.Test.YtbelcgjbhpjnpaaGreatO7
import Derived.Test.YtbelcgjbhpjnpaaGreatV6
set_option linter.all false
set_option linter.unusedVariables false
set_option linter.unusedSimpArgs false
namespace Go.Proofs.YtbelcgjbhpjnpaaGreat.Sh
open Go.RowKit Pk Dk Pg
attribute [local go_sem ↓] Go.wp_at_zero Go.wp_at_succ
theorem str_cat (a b : List UInt8) : (⟨a.toArray⟩ ++ ⟨b.toArray⟩ : ByteArray) = ⟨(a ++ b).toArray⟩ := by
 apply ByteArray.ext
 rw [ByteArray.data_append]
 simp
set_option maxRecDepth 100000 in
set_option maxHeartbeats 4000000 in
theorem bytes14_any {w : World} {L : Dk.Loc} {n : Nat} {d : Dk.D} (hd : DiskAt w L n d) (hdn : d.down = false) (id : Nat) (h : id < manyF n) :
  Calls Tryz.prog 26 #[dp L.b, .int .i64 (id : Nat)] w fun e w' => e = .returned (.string ⟨((d.now.drop (64 * (2 + 4 * id))).take 256).toArray⟩) ∧ w = w' := by
 have hn := hd.ok.small
 have hnow := hd.ok.now
 have hkn : 2 + 4 * id + 3 < n := by unfold manyF at h; omega
 have KR := Lib.hid (fun i (hi : i ≤ 3) => by
  have h := Dk.read_any hd ((2 + 4 * id + i : Nat) : Int)
  rw [readF_up d n _ (by omega) hdn] at h
  exact h)
 have HNX := Lib.hid (sec_next d.now (2 + 4 * id))
 have HLN := Lib.hid (show ∀ i, i ≤ 4 → ((d.now.drop (64 * (2 + 4 * id))).take (64 * i)).length = 64 * i from fun i hi => by rw [List.length_take, List.length_drop]; omega)
 have HSZ := Lib.hid (show ∀ i, i ≤ 3 → (sec d.now (2 + 4 * id + i)).length = 64 from fun i hi => sec_length hnow (by omega))
 have e1 : IntKind.i64.wrap (4 * (id : Int)) = 4 * (id : Int) := IntWalk.i64_in _ (by omega)
 obtain ⟨k, hk⟩ : ∃ k, 2 + 4 * id = k := ⟨_, rfl⟩
 have e2 : IntKind.i64.wrap (2 + 4 * (id : Int)) = (k : Int) := by rw [show 2 + 4 * (id : Int) = (k : Int) by omega]; exact IntWalk.i64_in _ (by omega)
 rw [hk] at KR HNX HLN HSZ hkn ⊢
 clear hd hnow hk h
 unfold dp at *
 go_enter Tryz.func26, Tryz.ntmps26
 go_wp2_with fail
 go_loopw [5, 6] (fun sv iv wr => ∃ i : Nat, i ≤ 4 ∧ iv = .int .i64 i ∧ Hid (sv = .string ⟨((d.now.drop (64 * k)).take (64 * i)).toArray⟩) ∧ wr = w) (fun _ iv _ => 4 - (intOf iv).toNat)
 case atStart => exact ⟨0, by omega, rfl, Lib.hid (by simp), rfl⟩
 case round =>
  obtain ⟨i, hi, rfl, HS, rfl⟩ := hrel
  by_cases h4 : i < 4
  ·have h4I : (i : Int) < 4 := by omega
   have e3 : IntKind.i64.wrap ((k : Int) + (i : Int)) = ((k + i : Nat) : Int) := by rw [show (k : Int) + (i : Int) = ((k + i : Nat) : Int) by omega]; exact IntWalk.i64_in _ (by omega)
   have ei : IntKind.i64.wrap ((i : Int) + 1) = ((i + 1 : Nat) : Int) := IntWalk.i64_in _ (by omega)
   have K1 := Lib.hid (KR.out i (by omega))
   have hT := HS.out
   have hs1 : (⟨((d.now.drop (64 * k)).take (64 * i)).toArray⟩ : ByteArray).size = 64 * i := by rw [str_size]; exact HLN.out i (by omega)
   have hs2 : (⟨(sec d.now (k + i)).toArray⟩ : ByteArray).size = 64 := by rw [str_size]; exact HSZ.out i (by omega)
   have hcat := Lib.hid (str_cat ((d.now.drop (64 * k)).take (64 * i)) (sec d.now (k + i)))
   rw [← HNX.out i] at hcat
   generalize (⟨((d.now.drop (64 * k)).take (64 * i)).toArray⟩ : ByteArray) = T at *
   generalize (⟨(sec d.now (k + i)).toArray⟩ : ByteArray) = U at *
   subst hT
   have hsz : ¬ 9223372036854775807 < T.size + U.size := by omega
   clear HS hs1 hs2
   go_wp2_with fail
   refine K1.out.mono ?_
   rintro e wz ⟨rfl, rfl⟩
   go_wp2_with fail
   go_roundw
   case rel => exact ⟨i + 1, by omega, by go_num, Lib.hid (by rw [← hcat.out]), by first | trivial | rfl⟩
   case measure => simp [intOf]; omega
  ·have h4I : ¬ (i : Int) < 4 := by omega
   obtain rfl : i = 4 := by omega
   have hT := HS.out
   rw [hT]
   clear hT HS
   go_wp2_with fail
   go_ret
   exact ⟨by first | rfl | simp, rfl⟩
theorem ints_sl {w : World} {A : Option Addr} {n c : Nat} {l : List Int} (S : Sl w 3 (.slice A n c) n (nvs' l)) : ∀ (k : Nat) (x : Int), l[k]? = some x → ∃ ad, A = some ad ∧ w.cell? (ad.add k) = some (.int .i64 x) := by
 intro k x hx
 have hl := S.1
 rw [nvs'_length] at hl
 have hk := (List.getElem?_eq_some_iff.1 hx).1
 rcases S.2 with ⟨_, _, h2⟩ | ⟨g, cap, rest, h1, _, B, _⟩
 ·omega
 ·injection h1 with h1 h2 h3
  refine ⟨_, h1, ?_⟩
  rw [show (⟨g, 0, none⟩ : Addr).add k = ⟨g, k, none⟩ by unfold Addr.add; split <;> simp_all]
  exact B.cell_some (by rw [List.getElem?_toArray, List.getElem?_append_left (by simpa using hk)]; unfold nvs'; rw [List.getElem?_map, hx]; rfl)
theorem pread_got {d : Dk.D} {n : Nat} {x : Int} {pg : PG} (h : preadF d n x = (pg, 0)) : 0 ≤ x ∧ x < manyF n ∧ gotF ((d.now.drop (64 * (2 + 4 * x.toNat))).take 256) = (pg, 0) ∧ pg.id = x := by
 unfold preadF at h
 generalize gotF ((d.now.drop (64 * (2 + 4 * x.toNat))).take 256) = G at *
 by_cases h1 : x < 0 ∨ (manyF n : Int) ≤ x
 ·rw [if_pos h1] at h; exact absurd (congrArg Prod.snd h) (by simp)
 rw [if_neg h1] at h
 by_cases h2 : d.down = true
 ·rw [if_pos h2] at h; exact absurd (congrArg Prod.snd h) (by simp)
 rw [if_neg h2] at h
 by_cases h3 : G.2 ≠ 0
 ·rw [if_pos h3] at h; exact absurd (congrArg Prod.snd h) h3
 rw [if_neg h3] at h
 by_cases h4 : G.1.id ≠ x
 ·rw [if_pos h4] at h; exact absurd (congrArg Prod.snd h) (by simp)
 rw [if_neg h4] at h
 have h5 : G.1 = pg := congrArg Prod.fst h
 refine ⟨by omega, by omega, ?_, ?_⟩
 ·rw [← h5]
  exact Prod.ext rfl (by simpa using h3)
 ·rw [← h5]; simpa using h4
/-- what was reached is in order -/
theorem reach_sorted {l : List Int} (hn : l.Nodup) : ∀ (i : Nat) (x y : Int), (msort l)[i]? = some x → (msort l)[i + 1]? = some y → x < y := by
 intro i x y hx hy
 have hp : (msort l).Pairwise fun a b => decide (a ≤ b) = true := by
  unfold msort
  exact List.pairwise_mergeSort (fun a b c h1 h2 => by simp at h1 h2 ⊢; omega) (fun a b => by simp; omega) l
 have hnd : (msort l).Nodup := by
  unfold msort
  exact (List.mergeSort_perm l _).nodup_iff.2 hn
 obtain ⟨h1, e1⟩ := List.getElem?_eq_some_iff.1 hx
 obtain ⟨h2, e2⟩ := List.getElem?_eq_some_iff.1 hy
 have a := List.pairwise_iff_getElem.1 hp i (i + 1) h1 h2 (by omega)
 have b := List.pairwise_iff_getElem.1 hnd i (i + 1) h1 h2 (by omega)
 rw [e1, e2] at a b
 have a : x ≤ y := by simpa using a
 omega
theorem mem_msort {l : List Int} {x : Int} : x ∈ msort l ↔ x ∈ l := by
 unfold msort
 exact (List.mergeSort_perm l _).mem_iff
theorem reach_nodup {c : C} {n : Nat} (g : Good c n) : (c.parts ++ ids c.old).Nodup := by
 rw [List.nodup_append]
 refine ⟨inj_nodup g.pj (fun x hx => (g.pi x hx).1), ids_nodup g.oj, fun a ha b hb e => ?_⟩
 subst e
 exact (g.dt a ha).2 (mem_ids.1 hb).1
theorem kept_len {c : C} {n : Nat} (g : Good c n) : (c.parts ++ ids c.old).length = (c.absF n).kept := by
 unfold St.kept C.absF ids
 rw [List.length_append, g.pl, ← List.countP_eq_length_filter, List.countP_map, List.length_map]
 have : c.old.countP (fun x => decide (0 ≤ x)) = c.old.countP (Option.isSome ∘ fun x => if x < 0 then none else some (preadF c.d n x).1.s) := by
  apply List.countP_congr
  intro x hx
  simp only [Function.comp]
  by_cases h : x < 0
  ·rw [if_pos h]; simp; omega
  ·rw [if_neg h]; simp; omega
 omega
/-- a page that was reached -/
def PgIn (d : Dk.D) (n : Nat) (ep x : Int) : Prop := 0 ≤ x ∧ x < manyF n ∧ ∃ q kd s, gotF ((d.now.drop (64 * (2 + 4 * x.toNat))).take 256) = (⟨x, q, kd, s⟩, 0) ∧ q ≤ ep ∧ (kd = 1 ∨ kd = 2)
theorem reach_page {c : C} {n : Nat} (g : Good c n) (R : Rooted c.d n c.ep c.slot c.old c.parts) {x : Int} (hx : x ∈ reachL c) : PgIn c.d n c.ep x := by
 unfold reachL at hx
 rw [mem_msort, List.mem_append] at hx
 rcases hx with hx | hx
 ·obtain ⟨i, hi⟩ := List.mem_iff_getElem?.1 hx
  obtain ⟨q, h1, h2, h3⟩ := R.pp i x hi
  rw [upD_eq g.up] at h3
  obtain ⟨a, b, e, _⟩ := pread_got h3
  exact ⟨a, b, q, 1, _, e, h2, .inl rfl⟩
 ·obtain ⟨hx, h0⟩ := mem_ids.1 hx
  obtain ⟨q, s, h1, h2, h3, h4⟩ := g.ro x hx h0
  obtain ⟨a, b, e, _⟩ := pread_got h4
  exact ⟨a, b, q, 2, _, e, h2, .inr rfl⟩
/-- what the law asks of a store -/
theorem LL.once {w0 w : World} {L : Dk.Loc} {b rb n K : Nat} (h : LL w0 w L b rb n K) (hK : K ≤ 999) : ∃ (f u fr le : Nat) (R : List Int) (ep : Int) (d : Dk.D),
  f + u + fr + le = pagesF n ∧ R.length = u + le ∧ R.length ≤ 1000 ∧ (∀ (i : Nat) (x : Int), R[i]? = some x → PgIn d n ep x) ∧ (∀ (i : Nat) (x y : Int), R[i]? = some x → R[i + 1]? = some y → x < y) ∧ d.down = false ∧ (0 ≤ ep ∧ ep ≤ 1000) ∧
  ∀ W, Below w.heap.size w W → DiskAt W L n d ∧
   Calls Tryz.prog 23 #[sp b] W (fun e w' => e = .returned (.tuple #[.int .i64 f, .int .i64 u, .int .i64 fr, .int .i64 le]) ∧ Below W.heap.size W w') ∧
   Calls Tryz.prog 24 #[sp b] W (fun e w' => ∃ v', e = .returned v' ∧ Sl w' 3 v' R.length (nvs' R) ∧ Below W.heap.size W w') ∧
   Calls Tryz.prog 27 #[sp b] W (fun e w' => e = .returned (.int .i64 ep) ∧ W = w') := by
 obtain ⟨x, c, a, tw, rfl, rfl, S⟩ := h
 have A0 := S.at_
 rw [armed_zero S.g.arm] at A0
 obtain ⟨n0, n1, n2, n3⟩ := counts S.g
 have hfc := (free_count S.g).2
 have hkl := kept_len S.g
 have hsum : (c.absF n).free + (c.absF n).kept + (c.absF n).fresh = pagesF n := by
  rw [← S.g.ml]
  have hm : (c.absF n).many = c.m.length := rfl
  have hf : (c.absF n).free = (c.absF n).many - (c.absF n).kept - (c.absF n).fresh := rfl
  omega
 have hrl : (reachL c).length = (c.parts ++ ids c.old).length := by unfold reachL; rw [msort_len]
 have hpl := S.g.pl
 have hol : c.old.length ≤ 512 := by
  obtain ⟨nv, ov, R, _⟩ := S.rt
  obtain ⟨k, e⟩ := S.e
  have := R.lo
  rw [e] at this
  have h2 : ((c.absF n).pad k).old.length = c.old.length := by show (c.old.map _).length = _; rw [List.length_map]
  omega
 have hp5 : c.parts.length ≤ 5 := by rw [hpl]; unfold needT; omega
 have hil := ids_le c.old
 rw [List.length_append] at hrl
 refine ⟨(Fm.listF c.m 0).length, (Fm.listF c.m 1).length, (Fm.listF c.m 2).length, (Fm.listF c.m 3).length, reachL c, c.ep, c.d, by omega, by rw [List.length_append] at hkl; omega, by omega, fun i x hx => reach_page S.g S.R (List.mem_of_getElem? hx), fun i x y hx hy => reach_sorted (reach_nodup S.g) i x y hx hy, S.g.up, ⟨by have := S.g.ep; omega, by have := S.be; omega⟩, fun W hW => ?_⟩
 have A1 := A0.below hW
 exact ⟨A1.hd, scount_any A1, reach_any A1 hol hp5, epoch_any A1⟩
end Go.Proofs.YtbelcgjbhpjnpaaGreat.Sh
