/- the document's pool by its contracts: Get, Put, Drop, Evict, Commit, Abort. -/
import Derived.Test.YtbelcgjbhpjnpaaGreatQi
import Derived.Test.YtbelcgjbhpjnpaaGreatZg
set_option linter.all false
set_option linter.unusedVariables false
set_option linter.unusedSimpArgs false
namespace Go.Proofs.YtbelcgjbhpjnpaaGreat.Sh
open Go.RowKit Pk Dk Pg
attribute [local go_sem ↓] Go.wp_at_zero Go.wp_at_succ
theorem findF_no {l : List Fr} {p : Int} (h : findF l p = -1) (h0 : 0 ≤ p) : ∀ f ∈ l, f.page ≠ p := by
 intro f hf e
 unfold findF at h
 rw [if_neg (by omega)] at h
 unfold ixF at h
 split at h
 ·omega
 ·rename_i hn
  exact hn (List.findIdx_lt_length.2 ⟨f, hf, by simpa using e⟩)
/-- what was held can be set -/
theorem set_held {q : QS} {n K : Nat} (H : Hq q n K) (p : Int) (b : ByteArray) (hb : b.size ≤ 232) (h0 : (q.holdF p).2.2 = 0) : ((q.holdF p).1.setF p b).2 = 0 := by
 have key : ∀ (q' : QS) (k : Nat) (f : Fr), findF q'.l p = k → q'.l[k]? = some f → f.held ≠ 0 → (q'.setF p b).2 = 0 := fun q' k f e hf hn => by
  unfold QS.setF QS.heldF
  rw [if_neg (by omega), e, if_neg (by omega), show ((k : Nat) : Int).toNat = k by omega, hf]
  dsimp only
  rw [if_neg hn]
 have hit : ∀ (l : List Fr) (k : Nat) (f : Fr), l[k]? = some f → f.page = p → 0 ≤ p → (∀ (j : Nat) (a : Fr), j < k → l[j]? = some a → a.page ≠ p) → findF l p = k := fun l k f hf e h0 ha => by
  unfold findF
  rw [if_neg (by omega)]
  exact ixF_hit hf (by simpa using e) (fun j a hj hja => by simpa using ha j a hj hja)
 unfold QS.holdF at h0 ⊢
 rcases findF_le q.l p with e | ⟨k, f, e, hk, he, hp⟩
 ·rw [e, if_neg (by omega)] at h0 ⊢
  by_cases hr : (q.a.readF p).2 ≠ 0
  ·rw [if_pos hr] at h0; exact absurd h0 hr
  rw [if_neg hr] at h0 ⊢
  have hp : 0 ≤ p := by
   by_cases hp : 0 ≤ p
   ·exact hp
   ·exfalso
    apply hr
    unfold St.readF St.at
    rw [if_neg hp]
    decide
  obtain ⟨v1, v3⟩ := H.victim
  have va := victim_a q
  by_cases hv : q.victimF.2 < 0
  ·rw [if_pos hv] at h0; exact absurd h0 (by show (12 : Int) ≠ 0; decide)
  rw [if_neg hv] at h0 ⊢
  rcases v3 with v3 | ⟨k, v3, hkl⟩
  ·omega
  rw [v3, show ((k : Nat) : Int).toNat = k by omega] at h0 ⊢
  by_cases hb2 : (q.victimF.1.backF k).2 ≠ 0
  ·rw [if_pos hb2] at h0; exact absurd h0 hb2
  rw [if_neg hb2]
  have hno : ∀ f ∈ q.l, f.page ≠ p := findF_no e hp
  have pages : (q.victimF.1.backF k).1.l.map Fr.page = q.l.map Fr.page := by
   have sp : ∀ (m : Nat) (s : QS), s.hand < s.l.length → (s.spin m).1.l.map Fr.page = s.l.map Fr.page := by
    intro m
    induction m with
    | zero => intro s _; rfl
    | succ m ih =>
     intro s hs
     rw [spin_succ]
     have ht : s.turn.hand < s.turn.l.length := Nat.mod_lt _ (by show 0 < s.l.length; omega)
     split
     ·exact ih s.turn ht
     ·split
      ·have hx := ih { s.turn with l := s.l.set s.hand { frD s.l s.hand with used := false } } (by show s.turn.hand < (s.l.set _ _).length; rw [List.length_set]; exact ht)
       rw [hx]
       show (s.l.set s.hand _).map Fr.page = _
       rw [List.map_set]
       apply List.ext_getElem?
       intro i
       rw [List.getElem?_set]
       split
       ·rename_i hi
        subst hi
        rw [if_pos (by simpa using hs), List.getElem?_map, frD_get hs]
        rfl
       ·rfl
      ·rfl
   have bp : (q.victimF.1.backF k).1.l.map Fr.page = q.victimF.1.l.map Fr.page := by
    have hkv : k < q.victimF.1.l.length := by omega
    unfold QS.backF
    split
    ·split
     ·show (q.victimF.1.l.set k _).map Fr.page = _
      rw [List.map_set]
      apply List.ext_getElem?
      intro i
      rw [List.getElem?_set]
      split
      ·rename_i hi
       subst hi
       rw [if_pos (by simpa using hkv), List.getElem?_map, frD_get hkv]
       rfl
      ·rfl
     ·rfl
    ·rfl
   rw [bp]
   unfold QS.victimF
   split
   ·rfl
   ·exact sp _ q H.lh
  have hbl := (back_l (k := k) v1.f (by omega)).2
  refine key _ k ⟨p, ⟨(q.a.readF p).1.toArray⟩, 1, false, true⟩ (hit _ k ⟨p, ⟨(q.a.readF p).1.toArray⟩, 1, false, true⟩ (by rw [List.getElem?_set_self (by omega)]) rfl hp (fun j a hj hja => ?_)) (by rw [List.getElem?_set_self (by omega)]) (by show (1 : Int) ≠ 0; decide)
  rw [List.getElem?_set_ne (by omega)] at hja
  have hm : a.page ∈ q.l.map Fr.page := by rw [← pages]; exact List.mem_map_of_mem (List.mem_of_getElem? hja)
  obtain ⟨f', hf', e'⟩ := List.mem_map.1 hm
  rw [← e']
  exact hno f' hf'
 ·rw [e, if_pos (by omega), show ((k : Nat) : Int).toNat = k by omega, frD_at hk]
  have hkl : k < q.l.length := (List.getElem?_eq_some_iff.1 hk).1
  have hfb := H.f f (List.mem_of_getElem? hk)
  refine key _ k { f with held := f.held + 1, used := true } (hit _ k { f with held := f.held + 1, used := true } (by rw [List.getElem?_set_self hkl]) he hp (fun j a hj hja => ?_)) (by rw [List.getElem?_set_self hkl]) (by show f.held + 1 ≠ 0; omega)
  rw [List.getElem?_set_ne (by omega)] at hja
  intro ea
  have : findF q.l p = j ∨ findF q.l p < k := by
   right
   unfold findF
   rw [if_neg (by omega)]
   unfold ixF
   have hj2 := (List.getElem?_eq_some_iff.1 hja)
   obtain ⟨hjl, hje⟩ := hj2
   have hle : q.l.findIdx (fun f => decide (f.page = p)) ≤ j := by
    by_cases h : q.l.findIdx (fun f => decide (f.page = p)) ≤ j
    ·exact h
    ·have := List.not_of_lt_findIdx (p := fun f => decide (f.page = p)) (xs := q.l) (i := j) (by omega)
     rw [hje] at this
     simp [ea] at this
   rw [if_pos (by omega)]
   omega
  omega
set_option maxRecDepth 100000 in
set_option maxHeartbeats 4000000 in
theorem xget {w : World} {pq rs n Kz : Nat} {q : QS} (h : RX w pq rs q) (H : Hq q n Kz) (hK : Kz ≤ 999999999999) (p : Int) :
  Calls Tryz.prog 115 #[rp pq, .int .i64 p] w fun e w' => e = .returned (.tuple #[.string (q.getF p).2.1, .int .i64 (q.getF p).2.2]) ∧ RX w' pq rs (q.getF p).1 ∧ Only [pq, rs] w w' := by
 have KH := Lib.hid (xhold h H (by omega) p)
 have H1 := H.hold p
 have hE : q.getF p = if (q.holdF p).2.2 ≠ 0 then ((q.holdF p).1, ⟨#[]⟩, (q.holdF p).2.2) else (((q.holdF p).1.letF p).1, (q.holdF p).2.1, 0) := rfl
 have hS : (q.holdF p).2.2 ≠ 0 → (q.holdF p).2.1 = ⟨#[]⟩ := by
  unfold QS.holdF
  split
  ·intro h; exact absurd rfl h
  ·split
   ·intro _; rfl
   ·split
    ·intro _; rfl
    ·split
     ·intro _; rfl
     ·intro h; exact absurd rfl h
 rw [hE]
 have KL := Lib.hid (fun (W : World) (hW : RX W pq rs (q.holdF p).1) => xlet hW H1 (by omega) p)
 generalize q.holdF p = Q at *
 by_cases h0 : Q.2.2 = 0
 ·rw [if_neg (by simpa using h0)]
  rw [h0] at KH
  clear h H hE hS h0 H1
  unfold rp at *
  go_enter Tryz.func115, Tryz.ntmps115
  go_wp2_with fail
  refine KH.out.mono ?_
  rintro e w1 ⟨rfl, x1, o1⟩
  have X1 := Lib.hid x1
  have O1 := Lib.hid o1
  clear x1 o1
  go_wp2_with fail
  refine (KL.out _ X1.out).mono ?_
  rintro e w2 ⟨rfl, x2, o2⟩
  have X2 := Lib.hid x2
  have O2 := Lib.hid (O1.out.trans o2)
  clear x2 o2
  go_wp2_with fail
  go_ret2
  exact ⟨by first | rfl | simp, X2.out, O2.out⟩
 ·rw [if_pos h0]
  rw [hS h0] at KH
  have hq : (Q.2.2 == 0) = false := by rw [beq_eq_false_iff_ne]; exact h0
  have hq2 : (Q.2.2 != 0) = true := by rw [bne_iff_ne]; exact h0
  clear h H hE hS H1
  unfold rp at *
  go_enter Tryz.func115, Tryz.ntmps115
  go_wp2_with fail
  refine KH.out.mono ?_
  rintro e w1 ⟨rfl, x1, o1⟩
  have X1 := Lib.hid x1
  have O1 := Lib.hid o1
  clear x1 o1
  go_wp2_with fail
  go_ret2
  exact ⟨by first | rfl | simp, X1.out, O1.out⟩
set_option maxRecDepth 100000 in
set_option maxHeartbeats 4000000 in
theorem xput {w : World} {pq rs n Kz : Nat} {q : QS} (h : RX w pq rs q) (H : Hq q n Kz) (hK : Kz ≤ 999999999999) (p : Int) (b : ByteArray) :
  Calls Tryz.prog 119 #[rp pq, .int .i64 p, .string b] w fun e w' => e = .returned (.int .i64 (q.putF p b).2) ∧ RX w' pq rs (q.putF p b).1 ∧ Only [pq, rs] w w' := by
 have H0 := Lib.hid h
 by_cases hb : 232 < b.size
 ·have hE : q.putF p b = (q, 4) := by unfold QS.putF; rw [if_pos hb]
  rw [hE]
  have hbI : (232 : Int) < (b.size : Int) := by omega
  clear h H hE hb
  unfold rp at *
  go_enter Tryz.func119, Tryz.ntmps119
  go_wp2_with fail
  go_ret
  exact ⟨by first | rfl | simp, H0.out, Only.refl _ _⟩
 have hbI : ¬ (232 : Int) < (b.size : Int) := by omega
 have KH := Lib.hid (xhold h H (by omega) p)
 have H1 := H.hold p
 have hE : q.putF p b = if (q.holdF p).2.2 ≠ 0 then ((q.holdF p).1, (q.holdF p).2.2) else ((((q.holdF p).1.setF p b).1.letF p).1, 0) := by unfold QS.putF; rw [if_neg hb]
 rw [hE]
 have KS := Lib.hid (fun (W : World) (hW : RX W pq rs (q.holdF p).1) => xsetF hW H1 p b)
 have KL := Lib.hid (fun (W : World) (hW : RX W pq rs ((q.holdF p).1.setF p b).1) => xlet hW (H1.set p b) (by omega) p)
 generalize q.holdF p = Q at *
 by_cases h0 : Q.2.2 = 0
 ·rw [if_neg (by simpa using h0)]
  rw [h0] at KH
  generalize Q.1.setF p b = Q3 at *
  clear h H hE h0 H1 hb
  unfold rp at *
  go_enter Tryz.func119, Tryz.ntmps119
  go_wp2_with fail
  refine KH.out.mono ?_
  rintro e w1 ⟨rfl, x1, o1⟩
  have X1 := Lib.hid x1
  have O1 := Lib.hid o1
  clear x1 o1
  go_wp2_with fail
  refine (KS.out _ X1.out).mono ?_
  rintro e w2 ⟨rfl, x2, o2⟩
  have X2 := Lib.hid x2
  have O2 := Lib.hid (O1.out.trans o2)
  clear x2 o2
  go_wp2_with fail
  refine (KL.out _ X2.out).mono ?_
  rintro e w3 ⟨rfl, x3, o3⟩
  have X3 := Lib.hid x3
  have O3 := Lib.hid (O2.out.trans o3)
  clear x3 o3
  go_wp2_with fail
  go_ret
  exact ⟨by first | rfl | simp, X3.out, O3.out⟩
 ·rw [if_pos h0]
  have hq : (Q.2.2 == 0) = false := by rw [beq_eq_false_iff_ne]; exact h0
  have hq2 : (Q.2.2 != 0) = true := by rw [bne_iff_ne]; exact h0
  clear h H hE H1 hb KS KL
  unfold rp at *
  go_enter Tryz.func119, Tryz.ntmps119
  go_wp2_with fail
  refine KH.out.mono ?_
  rintro e w1 ⟨rfl, x1, o1⟩
  have X1 := Lib.hid x1
  have O1 := Lib.hid o1
  clear x1 o1
  go_wp2_with fail
  go_ret
  exact ⟨by first | rfl | simp, X1.out, O1.out⟩
theorem xsdrop {w : World} {pq rs : Nat} {q : QS} (h : RX w pq rs q) (p : Int) : Calls Tryz.prog 68 #[rp rs, .int .i64 p] w fun e w' => e = .returned (.int .i64 (q.a.dropF p).2) ∧ RX w' pq rs { q with a := (q.a.dropF p).1 } ∧ Only [pq, rs] w w' := by
 obtain ⟨fv, nv, ov, h⟩ := h
 exact (rdrop14_any h.hs p).mono fun e w' ⟨r, t⟩ => ⟨r, by obtain ⟨nv', ov', A, o⟩ := h.doc t; exact ⟨⟨_, _, _, A⟩, o⟩⟩
theorem xscommit {w : World} {pq rs n Kz : Nat} {q : QS} (h : RX w pq rs q) (H : Hq q n Kz) (hK : Kz ≤ 999999999999) : Calls Tryz.prog 69 #[rp rs] w fun e w' => e = .returned (.int .i64 q.a.commitF.2) ∧ RX w' pq rs { q with a := q.a.commitF.1 } ∧ Only [pq, rs] w w' := by
 obtain ⟨fv, nv, ov, h⟩ := h
 obtain ⟨c, z⟩ := H.z
 have he : q.a.ep ≤ 2000000000000 := by
  obtain ⟨k, e⟩ := z.e
  have := z.be
  rw [e]
  show c.ep ≤ _
  omega
 exact (rcommit_any h.hs H.room he).mono fun e w' ⟨r, t⟩ => ⟨r, by obtain ⟨nv', ov', A, o⟩ := h.doc t; exact ⟨⟨_, _, _, A⟩, o⟩⟩
theorem xsabort {w : World} {pq rs : Nat} {q : QS} (h : RX w pq rs q) : Calls Tryz.prog 70 #[rp rs] w fun e w' => e = .returned (.tuple #[]) ∧ RX w' pq rs { q with a := { q.a with now := oldS q.a.old } } ∧ Only [pq, rs] w w' := by
 obtain ⟨fv, nv, ov, h⟩ := h
 exact (rabort_any h.hs).mono fun e w' ⟨r, t⟩ => ⟨r, by obtain ⟨nv', ov', A, o⟩ := h.doc t; exact ⟨⟨_, _, _, A⟩, o⟩⟩
theorem xsnew {w : World} {pq rs n Kz : Nat} {q : QS} (h : RX w pq rs q) (H : Hq q n Kz) (s : ByteArray) (hs : s.size ≤ 1000000) : Calls Tryz.prog 67 #[rp rs, .string s] w fun e w' => e = .returned (.tuple #[.int .i64 (q.a.newF s.data.toList).2.1, .int .i64 (q.a.newF s.data.toList).2.2]) ∧ RX w' pq rs { q with a := (q.a.newF s.data.toList).1 } ∧ Only [pq, rs] w w' := by
 obtain ⟨fv, nv, ov, h⟩ := h
 exact (rnew14_any h.hs H.room s hs).mono fun e w' ⟨r, t⟩ => ⟨r, by obtain ⟨nv', ov', A, o⟩ := h.doc t; exact ⟨⟨_, _, _, A⟩, o⟩⟩
set_option maxRecDepth 100000 in
set_option maxHeartbeats 4000000 in
theorem xdrop {w : World} {pq rs n Kz : Nat} {q : QS} (h : RX w pq rs q) (H : Hq q n Kz) (p : Int) :
  Calls Tryz.prog 116 #[rp pq, .int .i64 p] w fun e w' => e = .returned (.int .i64 (q.dropF p).2) ∧ RX w' pq rs (q.dropF p).1 ∧ Only [pq, rs] w w' := by
 have KF := Lib.hid (xfind h p)
 have H0 := Lib.hid h
 obtain ⟨g, cp, p1, p0, FR⟩ := h.fr
 have KD := Lib.hid (xsdrop h p)
 obtain ⟨D, hD⟩ : ∃ D, q.a.dropF p = D := ⟨_, rfl⟩
 rw [hD] at KD
 rcases findF_le q.l p with e | ⟨k, f, e, hf, he1, he0⟩
 ·rw [e] at KF
  have hE : q.dropF p = ({ q with a := D.1 }, D.2) := by
   unfold QS.dropF
   rw [e, if_neg (by omega), hD]
   by_cases h0 : D.2 = 0
   ·rw [if_neg (by simpa using h0), if_neg (by omega), h0]
   ·rw [if_pos h0]
  rw [hE]
  obtain ⟨Da, De⟩ := D
  dsimp only at KD ⊢
  clear h H hE e hD
  by_cases h0 : De = 0
  ·subst h0
   unfold rp at *
   go_enter Tryz.func116, Tryz.ntmps116
   go_wp2_with fail
   refine KF.out.mono ?_
   rintro e w1 ⟨rfl, rfl⟩
   go_wp2_with fail
   refine KD.out.mono ?_
   rintro e w2 ⟨rfl, x2, o2⟩
   have X2 := Lib.hid x2
   have O2 := Lib.hid o2
   clear x2 o2
   go_wp2_with fail
   go_ret
   exact ⟨by first | rfl | simp, X2.out, O2.out⟩
  ·have hq : (De == 0) = false := by rw [beq_eq_false_iff_ne]; exact h0
   have hq2 : (De != 0) = true := by rw [bne_iff_ne]; exact h0
   unfold rp at *
   go_enter Tryz.func116, Tryz.ntmps116
   go_wp2_with fail
   refine KF.out.mono ?_
   rintro e w1 ⟨rfl, rfl⟩
   go_wp2_with fail
   refine KD.out.mono ?_
   rintro e w2 ⟨rfl, x2, o2⟩
   have X2 := Lib.hid x2
   have O2 := Lib.hid o2
   clear x2 o2
   go_wp2_with fail
   go_ret
   exact ⟨by first | rfl | simp, X2.out, O2.out⟩
 ·rw [e] at KF
  have hfb := H.f f (List.mem_of_getElem? hf)
  have hkl : k < q.l.length := (List.getElem?_eq_some_iff.1 hf).1
  have hl2 := H.l2
  have hkI : (k : Int) < (q.l.length : Int) := by omega
  have hk0 : (0 : Int) ≤ (k : Int) := by omega
  obtain ⟨c0, c1, c2, c3, c4⟩ := FR k f hf
  have hE : q.dropF p = if 0 < f.held then (q, 16) else if D.2 = 0 then ({ q with a := D.1, l := q.l.set k Fr.nil }, 0) else ({ q with a := D.1 }, D.2) := by
   unfold QS.dropF
   rw [e, show ((k : Nat) : Int).toNat = k by omega, frD_at hf, hD]
   by_cases hh : 0 < f.held
   ·rw [if_pos ⟨by omega, hh⟩, if_pos hh]
   ·rw [if_neg (fun h => hh h.2), if_neg hh]
    by_cases h0 : D.2 = 0
    ·rw [if_neg (by simpa using h0), if_pos (by omega), if_pos h0]
    ·rw [if_pos h0, if_neg h0]
  rw [hE]
  have KS := Lib.hid (fun (W : World) (hW : RX W pq rs { q with a := D.1 }) => xset hW k hkl Fr.nil)
  unfold Fr.nil Fr.agg at KS
  dsimp only at KS
  obtain ⟨Da, De⟩ := D
  dsimp only at KD KS ⊢
  by_cases hh : 0 < f.held
  ·rw [if_pos hh]
   clear h H hE hf hfb hkl he1 he0 hD
   unfold rp at *
   go_enter Tryz.func116, Tryz.ntmps116
   go_wp2_with fail
   refine KF.out.mono ?_
   rintro e w1 ⟨rfl, rfl⟩
   go_wp2_with fail
   go_ret
   exact ⟨by first | rfl | simp, H0.out, Only.refl _ _⟩
  rw [if_neg hh]
  by_cases h0 : De = 0
  ·subst h0
   rw [if_pos rfl]
   clear h H hE hf hfb hkl he1 he0 hD
   unfold rp at *
   go_enter Tryz.func116, Tryz.ntmps116
   go_wp2_with fail
   refine KF.out.mono ?_
   rintro e w1 ⟨rfl, rfl⟩
   go_wp2_with fail
   refine KD.out.mono ?_
   rintro e w2 ⟨rfl, x2, o2⟩
   have X2 := Lib.hid x2
   have O2 := Lib.hid o2
   clear x2 o2
   go_wp2_with fail
   refine (KS.out _ X2.out).mono ?_
   rintro e w3 ⟨rfl, x3, o3⟩
   have X3 := Lib.hid x3
   have O3 := Lib.hid (O2.out.trans o3)
   clear x3 o3
   go_wp2_with fail
   go_ret
   exact ⟨by first | rfl | simp, X3.out, O3.out⟩
  ·rw [if_neg h0]
   have hq : (De == 0) = false := by rw [beq_eq_false_iff_ne]; exact h0
   have hq2 : (De != 0) = true := by rw [bne_iff_ne]; exact h0
   clear h H hE hf hfb hkl he1 he0 hD
   unfold rp at *
   go_enter Tryz.func116, Tryz.ntmps116
   go_wp2_with fail
   refine KF.out.mono ?_
   rintro e w1 ⟨rfl, rfl⟩
   go_wp2_with fail
   refine KD.out.mono ?_
   rintro e w2 ⟨rfl, x2, o2⟩
   have X2 := Lib.hid x2
   have O2 := Lib.hid o2
   clear x2 o2
   go_wp2_with fail
   go_ret
   exact ⟨by first | rfl | simp, X2.out, O2.out⟩
set_option maxRecDepth 100000 in
set_option maxHeartbeats 4000000 in
theorem xevict {w : World} {pq rs n Kz : Nat} {q : QS} (h : RX w pq rs q) (H : Hq q n Kz) (i : Int) :
  Calls Tryz.prog 117 #[rp pq, .int .i64 i] w fun e w' => e = .returned (.int .i64 (q.evictF i).2) ∧ RX w' pq rs (q.evictF i).1 ∧ Only [pq, rs] w w' := by
 have H0 := Lib.hid h
 obtain ⟨g, cp, p1, p0, FR⟩ := h.fr
 have hl2 := H.l2
 by_cases hi : i < 0
 ·have hE : q.evictF i = (q, 3) := by unfold QS.evictF; rw [if_pos (.inl hi)]
  rw [hE]
  clear h H hE
  unfold rp at *
  go_enter Tryz.func117, Tryz.ntmps117
  go_wp2_with fail
  go_ret
  exact ⟨by first | rfl | simp, H0.out, Only.refl _ _⟩
 by_cases hi2 : (q.l.length : Int) ≤ i
 ·have hE : q.evictF i = (q, 3) := by unfold QS.evictF; rw [if_pos (.inr hi2)]
  rw [hE]
  clear h H hE
  unfold rp at *
  go_enter Tryz.func117, Tryz.ntmps117
  go_wp2_with fail
  go_ret
  exact ⟨by first | rfl | simp, H0.out, Only.refl _ _⟩
 obtain ⟨k, rfl⟩ := Int.eq_ofNat_of_zero_le (show 0 ≤ i by omega)
 have hkl : k < q.l.length := by omega
 have hkI : (k : Int) < (q.l.length : Int) := by omega
 obtain ⟨f, hfe⟩ : ∃ f, frD q.l k = f := ⟨_, rfl⟩
 have hf := frD_get hkl
 rw [hfe] at hf
 obtain ⟨c0, c1, c2, c3, c4⟩ := FR k f hf
 have hE : q.evictF (k : Nat) = if f.page < 0 then (q, 0) else if 0 < f.held then (q, 16) else if (q.backF k).2 ≠ 0 then q.backF k else ({ (q.backF k).1 with l := (q.backF k).1.l.set k Fr.nil }, 0) := by
  unfold QS.evictF
  rw [if_neg (by omega), show ((k : Nat) : Int).toNat = k by omega, hfe]
 rw [hE]
 have KB := Lib.hid (xback h H k hkl)
 have hbl := (back_l H.f hkl).2
 generalize q.backF k = BB at *
 obtain ⟨B, be⟩ := BB
 dsimp only at KB hbl ⊢
 have KS := Lib.hid (fun (W : World) (hW : RX W pq rs B) => xset hW k (by omega) Fr.nil)
 unfold Fr.nil Fr.agg at KS
 dsimp only at KS
 clear h H hE hfe hf
 by_cases h1 : f.page < 0
 ·rw [if_pos h1]
  clear hbl
  unfold rp at *
  go_enter Tryz.func117, Tryz.ntmps117
  go_wp2_with fail
  go_ret
  exact ⟨by first | rfl | simp, H0.out, Only.refl _ _⟩
 rw [if_neg h1]
 by_cases h2 : 0 < f.held
 ·rw [if_pos h2]
  clear hbl
  unfold rp at *
  go_enter Tryz.func117, Tryz.ntmps117
  go_wp2_with fail
  go_ret
  exact ⟨by first | rfl | simp, H0.out, Only.refl _ _⟩
 rw [if_neg h2]
 by_cases h3 : be = 0
 ·subst h3
  rw [if_neg (by simp)]
  clear hbl
  unfold rp at *
  go_enter Tryz.func117, Tryz.ntmps117
  go_wp2_with fail
  refine KB.out.mono ?_
  rintro e w2 ⟨rfl, x2, o2⟩
  have X2 := Lib.hid x2
  have O2 := Lib.hid o2
  clear x2 o2
  go_wp2_with fail
  refine (KS.out _ X2.out).mono ?_
  rintro e w3 ⟨rfl, x3, o3⟩
  have X3 := Lib.hid x3
  have O3 := Lib.hid (O2.out.trans o3)
  clear x3 o3
  go_wp2_with fail
  go_ret
  exact ⟨by first | rfl | simp, X3.out, O3.out⟩
 ·rw [if_pos h3]
  have hq : (be == 0) = false := by rw [beq_eq_false_iff_ne]; exact h3
  have hq2 : (be != 0) = true := by rw [bne_iff_ne]; exact h3
  clear hbl
  unfold rp at *
  go_enter Tryz.func117, Tryz.ntmps117
  go_wp2_with fail
  refine KB.out.mono ?_
  rintro e w2 ⟨rfl, x2, o2⟩
  have X2 := Lib.hid x2
  have O2 := Lib.hid o2
  clear x2 o2
  go_wp2_with fail
  go_ret
  exact ⟨by first | rfl | simp, X2.out, O2.out⟩
end Go.Proofs.YtbelcgjbhpjnpaaGreat.Sh
