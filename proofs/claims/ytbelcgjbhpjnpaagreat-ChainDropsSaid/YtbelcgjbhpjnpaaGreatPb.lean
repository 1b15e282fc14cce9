/- pool by its contracts: frames, find. -/
import Derived.Test.YtbelcgjbhpjnpaaGreatSa
set_option linter.all false
set_option linter.unusedVariables false
set_option linter.unusedSimpArgs false
set_option maxRecDepth 100000
namespace Go.Proofs.YtbelcgjbhpjnpaaGreat.Sh
open Go.RowKit Pk Dk Pg
attribute [local go_sem ↓] Go.wp_at_zero Go.wp_at_succ
structure Fr where
 page : Int
 pay : ByteArray
 held : Int
 dirty : Bool
 used : Bool
def Fr.cs (f : Fr) : List Value := [.int .i64 f.page, .string f.pay, .int .i64 f.held, .bool f.dirty, .bool f.used]
def Fr.agg (f : Fr) : Value := .agg #[.int .i64 f.page, .string f.pay, .int .i64 f.held, .bool f.dirty, .bool f.used]
def Fr.nil : Fr := ⟨-1, ⟨#[]⟩, 0, false, false⟩
def frc (l : List Fr) : List Value := l.flatMap Fr.cs
theorem frc_length (l : List Fr) : (frc l).length = l.length * 5 := by
 induction l with
 | nil => rfl
 | cons f l ih => simp only [frc, List.flatMap_cons, List.length_append] at ih ⊢; rw [ih]; simp [Fr.cs]; omega
theorem frc_get (l : List Fr) (k i : Nat) (hi : i < 5) (f : Fr) (hf : l[k]? = some f) : (frc l)[k * 5 + i]? = f.cs[i]? := by
 induction l generalizing k with
 | nil => simp at hf
 | cons a l ih =>
  have e5 : a.cs.length = 5 := rfl
  simp only [frc, List.flatMap_cons] at ih ⊢
  cases k with
  | zero =>
   simp at hf
   subst hf
   rw [Nat.zero_mul, Nat.zero_add, List.getElem?_append_left (by omega)]
  | succ k =>
   simp at hf
   rw [List.getElem?_append_right (by omega), e5, show (k + 1) * 5 + i - 5 = k * 5 + i from by omega]
   exact ih k hf
/-- the cells of a row of frames -/
def FrsAt (w : World) (g : Nat) (l : List Fr) : Prop := ∀ k f, l[k]? = some f → w.cell? ⟨g, k * 5, none⟩ = some (.int .i64 f.page) ∧ w.cell? ⟨g, k * 5 + 1, none⟩ = some (.string f.pay) ∧ w.cell? ⟨g, k * 5 + 2, none⟩ = some (.int .i64 f.held) ∧ w.cell? ⟨g, k * 5 + 3, none⟩ = some (.bool f.dirty) ∧ w.cell? ⟨g, k * 5 + 4, none⟩ = some (.bool f.used)
theorem FrsAt.of {w : World} {g : Nat} {l : List Fr} {rest : List Value} {t : TypeId} (B : Blk w g t (frc l ++ rest).toArray) : FrsAt w g l := by
 intro k f hf
 have hk : k < l.length := (List.getElem?_eq_some_iff.1 hf).1
 have hl := frc_length l
 have c : ∀ i v, i < 5 → f.cs[i]? = some v → w.cell? ⟨g, k * 5 + i, none⟩ = some v := fun i v hi hv =>
  B.cell_some (by rw [List.getElem?_toArray, List.getElem?_append_left (by omega), frc_get l k i hi f hf, hv])
 exact ⟨c 0 _ (by omega) rfl, c 1 _ (by omega) rfl, c 2 _ (by omega) rfl, c 3 _ (by omega) rfl, c 4 _ (by omega) rfl⟩
theorem FrsAt.below {w w' : World} {g : Nat} {l : List Fr} (h : FrsAt w g l) (hb : Below w.heap.size w w') : FrsAt w' g l := by
 intro k f hf
 obtain ⟨c0, c1, c2, c3, c4⟩ := h k f hf
 exact ⟨(hb.cell (cell_lt' c0)).trans c0, (hb.cell (cell_lt' c1)).trans c1, (hb.cell (cell_lt' c2)).trans c2, (hb.cell (cell_lt' c3)).trans c3, (hb.cell (cell_lt' c4)).trans c4⟩
/-- the first place where b holds -/
def ixF (b : Fr → Bool) (l : List Fr) : Int := if l.findIdx b < l.length then (l.findIdx b : Int) else -1
def findF (l : List Fr) (p : Int) : Int := if p < 0 then -1 else ixF (fun f => decide (f.page = p)) l
theorem ixF_hit {b : Fr → Bool} {l : List Fr} {k : Nat} {f : Fr} (hf : l[k]? = some f) (hb : b f = true) (ha : ∀ (j : Nat) (a : Fr), j < k → l[j]? = some a → b a = false) : ixF b l = k := by
 have hk : k < l.length := (List.getElem?_eq_some_iff.1 hf).1
 have hg : l[k] = f := (List.getElem?_eq_some_iff.1 hf).2
 have e : l.findIdx b = k := by
  rw [List.findIdx_eq hk]
  exact ⟨by rw [hg]; exact hb, fun j hj => by have := ha j l[j] hj (List.getElem?_eq_getElem (by omega)); simp [this]⟩
 unfold ixF
 rw [e, if_pos hk]
theorem ixF_miss {b : Fr → Bool} {l : List Fr} (ha : ∀ (j : Nat) (a : Fr), l[j]? = some a → b a = false) : ixF b l = -1 := by
 have e : l.findIdx b = l.length := by
  rw [List.findIdx_eq_length]
  intro x hx
  obtain ⟨i, hi, rfl⟩ := List.mem_iff_getElem.1 hx
  exact ha i _ (List.getElem?_eq_getElem hi)
 unfold ixF
 rw [e, if_neg (Nat.lt_irrefl _)]
theorem ret_frame {fn : Func} {p : Tmp} {w : World} {g : Nat} {f : Fr} {tmps : Array Value} (h : fn.results = #[.cell p 150]) (hp : tmps.getD p undef = .pointer (some ⟨g, 0, none⟩)) (B : Blk w g 150 f.cs.toArray) :
  (results fn tmps).run Tryz.prog w = .ok f.agg w := by
 have c0 := B.cell_some (i := 0) rfl
 have c1 := B.cell_some (i := 1) rfl
 have c2 := B.cell_some (i := 2) rfl
 have c3 := B.cell_some (i := 3) rfl
 have c4 := B.cell_some (i := 4) rfl
 rw [results_cell_one h, hp]
 clear h hp B
 unfold Fr.agg
 go_simp
 exact ⟨rfl, rfl, rfl, rfl, rfl⟩
set_option maxHeartbeats 1000000 in
theorem empty_any (w : World) : Calls Tryz.prog 126 #[] w fun e w' => e = .returned Fr.nil.agg ∧ Below w.heap.size w w' := by
 unfold Fr.nil Fr.agg
 go_enter Tryz.func126, Tryz.ntmps126
 go_wp2_with fail
 exact bodyPost_ret (ret_frame (f := Fr.nil) rfl rfl (Blk.new w 150 Fr.nil.cs.toArray)) rfl ⟨rfl, belowAlloc (Below.refl w.heap.size w) _⟩
set_option maxHeartbeats 1000000 in
theorem find1_any (f : Fr) (q : Nat) (p : Int) (w : World) (hq : w.cell? ⟨q, 0, none⟩ = some (.int .i64 p)) (b : Bool) (hb : b = decide (f.page = p)) :
  Calls Tryz.prog 174 #[f.agg, .pointer (some ⟨q, 0, none⟩)] w fun e w' => e = .returned (.bool b) ∧ Below w.heap.size w w' := by
 have O0 := Lib.hid ((Below.refl w.heap.size w).alloc (Nat.le_refl _) (.cells #[.int .i64 f.page, .string f.pay, .int .i64 f.held, .bool f.dirty, .bool f.used] 150))
 have B0 := Blk.new w 150 #[.int .i64 f.page, .string f.pay, .int .i64 f.held, .bool f.dirty, .bool f.used]
 have c0 := B0.cell_some (i := 0) rfl
 have HB := Lib.hid hb
 have hq1 := (O0.out.cell (cell_lt' hq)).trans hq
 clear hb hq B0
 unfold Fr.agg
 go_enter Tryz.func174, Tryz.ntmps174
 go_wp2_with fail
 go_ret
 exact ⟨by rw [HB.out]; rfl, O0.out⟩
set_option maxRecDepth 100000 in
set_option maxHeartbeats 2000000 in
theorem ixfind_any {w : World} (g n c q : Nat) (p : Int) (l : List Fr) (h : FrsAt w g l) (hl : l.length = n) (hn : n ≤ 1000000) (hq : w.cell? ⟨q, 0, none⟩ = some (.int .i64 p)) :
  Calls Tryz.prog 173 #[.slice (some ⟨g, 0, none⟩) n c, .func (Fn.func 174) #[] #[.pointer (some ⟨q, 0, none⟩)]] w fun e w' => e = .returned (.int .i64 (ixF (fun f => decide (f.page = p)) l)) ∧ Below w.heap.size w w' := by
 have HL := Lib.hid hl
 have H0 := Lib.hid h
 have HQ := Lib.hid hq
 clear h hq hl
 go_enter Tryz.func173, Tryz.ntmps173
 go_wp2_with fail
 go_loopw [8] (fun iv wr => ∃ i : Nat, i ≤ n ∧ iv = .int .i64 i ∧ Hid (∀ j a, j < i → l[j]? = some a → decide (a.page = p) = false) ∧ Hid (Below w.heap.size w wr)) (fun iv _ => n - (intOf iv).toNat)
 case atStart => exact ⟨0, Nat.zero_le _, rfl, Lib.hid (fun j a hj => absurd hj (Nat.not_lt_zero j)), Lib.hid (Below.refl _ _)⟩
 case round =>
  obtain ⟨i, hi, rfl, HA, HB⟩ := hrel
  by_cases h : i < n
  ·have hf : l[i]? = some (l[i]'(by have := HL.out; omega)) := List.getElem?_eq_getElem _
   generalize (l[i]'(by have := HL.out; omega)) = f at hf
   obtain ⟨c0, c1, c2, c3, c4⟩ := (H0.out.below HB.out) i f hf
   have KF := Lib.hid (find1_any f q p wr ((HB.out.cell (cell_lt' HQ.out)).trans HQ.out) _ rfl)
   have HF := Lib.hid hf
   clear hf
   unfold Fr.agg at KF
   obtain ⟨b, hb⟩ : ∃ b, decide (f.page = p) = b := ⟨_, rfl⟩
   rw [hb] at KF
   have HD := Lib.hid hb
   clear hb
   go_wp2_with fail
   refine KF.out.mono ?_
   rintro e w1 ⟨rfl, hb1⟩
   have HB1 := Lib.hid (bstep HB.out hb1)
   clear hb1
   cases b with
   | true =>
    have he := Lib.hid (ixF_hit (b := fun f => decide (f.page = p)) HF.out HD.out HA.out)
    go_wp2_with fail
    go_ret
    exact ⟨by rw [he.out]; rfl, HB1.out⟩
   | false =>
    go_wp2_with fail
    go_roundw
    case rel =>
     refine ⟨i + 1, by omega, by go_num, Lib.hid (fun j a hj ha => ?_), HB1⟩
     rcases Nat.lt_succ_iff_lt_or_eq.1 hj with hj | rfl
     ·exact HA.out j a hj ha
     ·have := HF.out.symm.trans ha
      injection this with this
      subst this
      exact HD.out
    case measure => simp [intOf]; omega
  ·have he := Lib.hid (ixF_miss (b := fun f => decide (f.page = p)) (l := l) (fun j a ha => HA.out j a (by have := (List.getElem?_eq_some_iff.1 ha).1; have := HL.out; omega) ha))
   go_wp2_with fail
   go_ret
   exact ⟨by rw [he.out]; rfl, HB.out⟩
end Go.Proofs.YtbelcgjbhpjnpaaGreat.Sh

/- pool by its contracts: New. -/
namespace Go.Proofs.YtbelcgjbhpjnpaaGreat.Sh
open Go.RowKit Pk Dk Pg
attribute [local go_sem ↓] Go.wp_at_zero Go.wp_at_succ exec_app
theorem info_frame : (Tryz.prog.info? 150).map (fun i => (i.zero, i.size, i.bytes)) = some (some (.agg #[.int .i64 0, .string ⟨#[]⟩, .int .i64 0, .bool false, .bool false]), 5, 40) := by kernel_rfl
theorem frc_append (l k : List Fr) : frc (l ++ k) = frc l ++ frc k := by simp [frc]
theorem bstep2 {w a b c : World} {v : Value} (h : Below w.heap.size w a) (k : Below a.heap.size a b) (o : Only (ownB v) b c) (hf : ∀ g ∈ ownB v, w.heap.size ≤ g) : Below w.heap.size w c :=
 (bstep h k).trans (o.below_of (Nat.le_trans h.size k.size) hf)
theorem append_nil {w : World} {v : Value} {n : Nat} {l : List Fr} (h : Slc w 150 5 v n (frc l)) (hn : n ≤ 1000) :
  ∃ v' w', appRun Tryz.prog 146 146 (w.alloc (.cells #[.int .i64 (-1), .string ⟨#[]⟩, .int .i64 0, .bool false, .bool false] 150)) v (.slice (some ⟨w.heap.size, 0, none⟩) 1 1) = .ok v' w' ∧ Slc w' 150 5 v' (n + 1) (frc (l ++ [Fr.nil])) ∧ Only (ownB v) w w' ∧ (∀ g ∈ ownB v', g ∈ ownB v ∨ w.heap.size ≤ g) := by
 obtain ⟨i0, hi, hz0, hz1, hz2⟩ := info_parts info_frame
 obtain ⟨v', w', h1, h2, h3, h4⟩ := append_slc (P := Tryz.prog) (h.alloc (.cells #[.int .i64 (-1), .string ⟨#[]⟩, .int .i64 0, .bool false, .bool false] 150)) 146 146 i0 _ 40 Tryz.underlying146 hi hz0 hz1 hz2 rfl (by omega)
  ⟨w.heap.size, 0, none⟩ 1 1 Fr.nil.cs rfl (cells_at (l := Fr.nil.cs) (Blk.new w _ #[.int .i64 (-1), .string ⟨#[]⟩, .int .i64 0, .bool false, .bool false]) 0 _ (by intro j u hu; rw [Nat.zero_add]; exact hu)) (by intro u hu; simp [Fr.cs, Fr.nil] at hu; rcases hu with rfl | rfl | rfl | rfl <;> rfl) (by unfold maxLen; omega) (by omega)
 refine ⟨v', w', h1, ?_, ((Only.refl _ _).alloc _).trans_of h3 (fun x hx _ => hx), fun g hg => (h4 g hg).imp id (fun h => by simp at h; omega)⟩
 rw [frc_append]
 exact h2
set_option maxRecDepth 100000 in
set_option maxHeartbeats 2000000 in
theorem pnew_any {w : World} (b k : Nat) (h1 : 1 ≤ k) (h2 : k ≤ 32) :
  Calls Tryz.prog 54 #[sp b, .int .i64 (k : Nat)] w fun e w' => ∃ pb v, e = .returned (.tuple #[.pointer (some ⟨pb, 0, none⟩), .int .i64 0]) ∧ Blk w' pb 148 #[sp b, v, .int .i64 0] ∧ Slc w' 150 5 v k (frc (List.replicate k Fr.nil)) ∧ Below w.heap.size w w' ∧ w.heap.size ≤ pb ∧ ∀ g ∈ ownB v, w.heap.size ≤ g := by
 have KE := Lib.hid empty_any
 have O0 := Lib.hid (belowAlloc (Below.refl w.heap.size w) (.cells #[sp b, .slice none 0 0, .int .i64 0] 148))
 have B0 := Lib.hid (Blk.new w 148 #[sp b, .slice none 0 0, .int .i64 0])
 have k1 : ¬ (k : Int) < 1 := by omega
 have k2 : ¬ (32 : Int) < (k : Int) := by omega
 unfold sp at *
 go_enter Tryz.func54, Tryz.ntmps54
 go_wp2_with fail
 generalize hwa : w.alloc (.cells #[.pointer (some ⟨b, 0, none⟩), .slice none 0 0, .int .i64 0] 148) = wa at *
 clear hwa
 go_loopw [21] (fun iv wr => ∃ i : Nat, i ≤ k ∧ iv = .int .i64 i ∧ ∃ v, Hid (Blk wr w.heap.size 148 #[.pointer (some ⟨b, 0, none⟩), v, .int .i64 0]) ∧ Hid (Slc wr 150 5 v i (frc (List.replicate i Fr.nil))) ∧ Hid (Below w.heap.size w wr) ∧ Hid (∀ g ∈ ownB v, w.heap.size ≤ g)) (fun iv _ => k - (intOf iv).toNat)
 case atStart => exact ⟨0, Nat.zero_le _, rfl, .slice none 0 0, B0, Lib.hid (Slc.nil _ _ _), O0, Lib.hid (by simp [ownB])⟩
 case round =>
  obtain ⟨i, hi, rfl, v, BP, SP, OB, FR⟩ := hrel
  by_cases h : i < k
  ·obtain ⟨A, cc, rfl⟩ := slc_val SP.out
   have hI : (i : Int) < (k : Int) := by omega
   have OD := Lib.hid (show Below wr.heap.size wr wr.drew from (Below.refl _ _).drew)
   have c0 := BP.out.cell_some (i := 1) rfl
   have NB := Lib.hid (show w.heap.size ∉ ownB (.slice A i cc) from slc_ne SP.out BP.out (by decide))
   go_wp2_with fail
   refine wp_region_held_drew (S := fun _ => True) (by kernel_rfl) (trivial) (fun hHeld => ?_)
   refine zpl [(0,23),(1,24),(2,25),(3,26)] ?_
   iterate 4 (refine ztp (v := ?_) rfl (by kernel_rfl) (fun _ _ _ h => h) (by assumption) ?_ ?_; rotate_left; (·intro w hS; (try dsimp only at hS); go_simp; try with_reducible rfl); try simp only [Act.put, pa, pb, pc])
   refine zpe ?_
   refine wpAnyH_ready (rs := [4, 5]) (by kernel_rfl) (by simp) ?_
   refine AllReadyH.cons (o := ⟨some 27, _, _, _, _, _⟩) rfl (fun K hK => ?_) (AllReadyH.cons (o := ⟨some 28, _, _, _, _, _⟩) rfl (fun K hK => ?_) AllReadyH.nil)
   ·skip
    go_simp
    refine hK.out _ _ (trivial) (fun hHeld => ?_)
    try simp only [Act.put, pa, pb, pc]
    refine wpAnyH_ready (rs := [5]) (by kernel_rfl) (by simp) ?_
    refine AllReadyH.cons (o := ⟨some 28, _, _, _, _, _⟩) rfl (fun K hK => ?_) AllReadyH.nil
    go_simp
    go_at_call 126
    refine (KE.out _).mono ?_
    rintro e v1 ⟨rfl, hv1⟩
    have P1 := Lib.hid (bstep OD.out hv1)
    have BP1 := Lib.hid (BP.out.below P1.out BP.out.lt)
    have SP1 := Lib.hid (SP.out.below P1.out)
    have cl := BP1.out.cell_some (i := 1) rfl
    clear hv1
    unfold Fr.nil Fr.agg
    go_simp
    refine hK.out _ _ (trivial) (fun hHeld => ?_)
    try simp only [Act.put, pa, pb, pc]
    refine wpAnyH_ready (rs := [6]) (by kernel_rfl) (by simp) ?_
    refine AllReadyH.cons (o := ⟨some 29, _, _, _, _, _⟩) rfl (fun K hK => ?_) AllReadyH.nil
    go_simp
    obtain ⟨v2, w2, ea, S2, ow2, fr2⟩ := append_nil SP1.out (by omega)
    obtain ⟨A2, cc2, rfl⟩ := slc_val S2
    have EA := Lib.hid ea
    have SP2 := Lib.hid S2
    have OW2 := Lib.hid ow2
    have FR2 := Lib.hid fr2
    have BP2 := Lib.hid (BP1.out.only OW2.out NB.out)
    clear ea S2 ow2 fr2 cl
    refine hK.out _ _ (trivial) (fun hHeld => ?_)
    try simp only [Act.put, pa, pb, pc]
    refine wpAnyH_ready (rs := [7]) (by kernel_rfl) (by simp) ?_
    refine AllReadyH.cons (o := ⟨some 30, _, _, _, _, _⟩) rfl (fun K hK => ?_) AllReadyH.nil
    go_simp
    rw [EA.out]
    go_simp
    refine hK.out _ _ (trivial) (fun hHeld => ?_)
    try simp only [Act.put, pa, pb, pc]
    refine zpl [(8,31),(9,32)] ?_
    iterate 2 (refine ztp (v := ?_) rfl (by kernel_rfl) (fun _ _ _ h => h) (by assumption) ?_ ?_; rotate_left; (·intro w hS; (try dsimp only at hS); go_simp; try with_reducible rfl); try simp only [Act.put, pa, pb, pc])
    refine zpe ?_
    refine wpAnyH_ready (rs := [10]) (by kernel_rfl) (by simp) ?_
    refine AllReadyH.cons (o := ⟨none, _, _, _, _, _⟩) rfl (fun K hK => ?_) AllReadyH.nil
    go_simp
    have q0 := BP2.out.cell_some (i := 1) rfl
    have q1 := BP2.out.frozen 1 (by simp)
    go_simp
    refine hK.out _ _ (trivial) (fun hHeld => ?_)
    try simp only [Act.put, pa, pb, pc]
    refine wpAnyH_done (by kernel_rfl) ?_ _
    have BP3 := BP2.out.set_ 1 (.slice A2 (i + 1) cc2)
    have SP3 := SP2.out.only ((Only.refl [w.heap.size] w2).setCell (p := ⟨w.heap.size, 1, none⟩) (by simp) (.slice A2 (i + 1) cc2)) (fun g hg hm => by simp at hm; subst hm; exact slc_ne SP2.out BP2.out (by decide) hg)
    have O3 := Below.setCell (bstep2 OB.out P1.out OW2.out FR.out) (p := ⟨w.heap.size, 1, none⟩) (Nat.le_refl _) (.slice A2 (i + 1) cc2)
    have hfr : ∀ g ∈ ownB (.slice A2 (i + 1) cc2), w.heap.size ≤ g := fun g hg => (FR2.out g hg).elim (FR.out g) (fun h => by have := OB.out.size; have := P1.out.size; omega)
    have BP4 := Lib.hid BP3
    have SP4 := Lib.hid SP3
    have O4 := Lib.hid O3
    have HFR := Lib.hid hfr
    clear BP3 SP3 O3 hfr q0 q1
    go_wp2_with fail
    go_roundw
    case rel =>
     refine ⟨i + 1, by omega, by go_num, .slice A2 (i + 1) cc2, BP4, ?_, O4, HFR⟩
     rw [show List.replicate (i + 1) Fr.nil = List.replicate i Fr.nil ++ [Fr.nil] from List.replicate_succ']
     exact SP4
    case measure => simp [intOf]; omega
   ·skip
    go_simp
    go_at_call 126
    refine (KE.out _).mono ?_
    rintro e v1 ⟨rfl, hv1⟩
    have P1 := Lib.hid (bstep OD.out hv1)
    have BP1 := Lib.hid (BP.out.below P1.out BP.out.lt)
    have SP1 := Lib.hid (SP.out.below P1.out)
    have cl := BP1.out.cell_some (i := 1) rfl
    clear hv1
    unfold Fr.nil Fr.agg
    go_simp
    refine hK.out _ _ (trivial) (fun hHeld => ?_)
    try simp only [Act.put, pa, pb, pc]
    refine wpAnyH_ready (rs := [4, 6]) (by kernel_rfl) (by simp) ?_
    refine AllReadyH.cons (o := ⟨some 27, _, _, _, _, _⟩) rfl (fun K hK => ?_) (AllReadyH.cons (o := ⟨some 29, _, _, _, _, _⟩) rfl (fun K hK => ?_) AllReadyH.nil)
    ·skip
     go_simp
     refine hK.out _ _ (trivial) (fun hHeld => ?_)
     try simp only [Act.put, pa, pb, pc]
     refine wpAnyH_ready (rs := [6]) (by kernel_rfl) (by simp) ?_
     refine AllReadyH.cons (o := ⟨some 29, _, _, _, _, _⟩) rfl (fun K hK => ?_) AllReadyH.nil
     go_simp
     obtain ⟨v2, w2, ea, S2, ow2, fr2⟩ := append_nil SP1.out (by omega)
     obtain ⟨A2, cc2, rfl⟩ := slc_val S2
     have EA := Lib.hid ea
     have SP2 := Lib.hid S2
     have OW2 := Lib.hid ow2
     have FR2 := Lib.hid fr2
     have BP2 := Lib.hid (BP1.out.only OW2.out NB.out)
     clear ea S2 ow2 fr2 cl
     refine hK.out _ _ (trivial) (fun hHeld => ?_)
     try simp only [Act.put, pa, pb, pc]
     refine wpAnyH_ready (rs := [7]) (by kernel_rfl) (by simp) ?_
     refine AllReadyH.cons (o := ⟨some 30, _, _, _, _, _⟩) rfl (fun K hK => ?_) AllReadyH.nil
     go_simp
     rw [EA.out]
     go_simp
     refine hK.out _ _ (trivial) (fun hHeld => ?_)
     try simp only [Act.put, pa, pb, pc]
     refine zpl [(8,31),(9,32)] ?_
     iterate 2 (refine ztp (v := ?_) rfl (by kernel_rfl) (fun _ _ _ h => h) (by assumption) ?_ ?_; rotate_left; (·intro w hS; (try dsimp only at hS); go_simp; try with_reducible rfl); try simp only [Act.put, pa, pb, pc])
     refine zpe ?_
     refine wpAnyH_ready (rs := [10]) (by kernel_rfl) (by simp) ?_
     refine AllReadyH.cons (o := ⟨none, _, _, _, _, _⟩) rfl (fun K hK => ?_) AllReadyH.nil
     go_simp
     have q0 := BP2.out.cell_some (i := 1) rfl
     have q1 := BP2.out.frozen 1 (by simp)
     go_simp
     refine hK.out _ _ (trivial) (fun hHeld => ?_)
     try simp only [Act.put, pa, pb, pc]
     refine wpAnyH_done (by kernel_rfl) ?_ _
     have BP3 := BP2.out.set_ 1 (.slice A2 (i + 1) cc2)
     have SP3 := SP2.out.only ((Only.refl [w.heap.size] w2).setCell (p := ⟨w.heap.size, 1, none⟩) (by simp) (.slice A2 (i + 1) cc2)) (fun g hg hm => by simp at hm; subst hm; exact slc_ne SP2.out BP2.out (by decide) hg)
     have O3 := Below.setCell (bstep2 OB.out P1.out OW2.out FR.out) (p := ⟨w.heap.size, 1, none⟩) (Nat.le_refl _) (.slice A2 (i + 1) cc2)
     have hfr : ∀ g ∈ ownB (.slice A2 (i + 1) cc2), w.heap.size ≤ g := fun g hg => (FR2.out g hg).elim (FR.out g) (fun h => by have := OB.out.size; have := P1.out.size; omega)
     have BP4 := Lib.hid BP3
     have SP4 := Lib.hid SP3
     have O4 := Lib.hid O3
     have HFR := Lib.hid hfr
     clear BP3 SP3 O3 hfr q0 q1
     go_wp2_with fail
     go_roundw
     case rel =>
      refine ⟨i + 1, by omega, by go_num, .slice A2 (i + 1) cc2, BP4, ?_, O4, HFR⟩
      rw [show List.replicate (i + 1) Fr.nil = List.replicate i Fr.nil ++ [Fr.nil] from List.replicate_succ']
      exact SP4
     case measure => simp [intOf]; omega
    ·skip
     go_simp
     obtain ⟨v2, w2, ea, S2, ow2, fr2⟩ := append_nil SP1.out (by omega)
     obtain ⟨A2, cc2, rfl⟩ := slc_val S2
     have EA := Lib.hid ea
     have SP2 := Lib.hid S2
     have OW2 := Lib.hid ow2
     have FR2 := Lib.hid fr2
     have BP2 := Lib.hid (BP1.out.only OW2.out NB.out)
     clear ea S2 ow2 fr2 cl
     have cl := (BP1.out.alloc (.cells #[.int .i64 (-1), .string ⟨#[]⟩, .int .i64 0, .bool false, .bool false] 150)).cell_some (i := 1) rfl
     refine hK.out _ _ (trivial) (fun hHeld => ?_)
     try simp only [Act.put, pa, pb, pc]
     refine wpAnyH_ready (rs := [4]) (by kernel_rfl) (by simp) ?_
     refine AllReadyH.cons (o := ⟨some 27, _, _, _, _, _⟩) rfl (fun K hK => ?_) AllReadyH.nil
     go_simp
     refine hK.out _ _ (trivial) (fun hHeld => ?_)
     try simp only [Act.put, pa, pb, pc]
     refine wpAnyH_ready (rs := [7]) (by kernel_rfl) (by simp) ?_
     refine AllReadyH.cons (o := ⟨some 30, _, _, _, _, _⟩) rfl (fun K hK => ?_) AllReadyH.nil
     go_simp
     rw [EA.out]
     go_simp
     refine hK.out _ _ (trivial) (fun hHeld => ?_)
     try simp only [Act.put, pa, pb, pc]
     refine zpl [(8,31),(9,32)] ?_
     iterate 2 (refine ztp (v := ?_) rfl (by kernel_rfl) (fun _ _ _ h => h) (by assumption) ?_ ?_; rotate_left; (·intro w hS; (try dsimp only at hS); go_simp; try with_reducible rfl); try simp only [Act.put, pa, pb, pc])
     refine zpe ?_
     refine wpAnyH_ready (rs := [10]) (by kernel_rfl) (by simp) ?_
     refine AllReadyH.cons (o := ⟨none, _, _, _, _, _⟩) rfl (fun K hK => ?_) AllReadyH.nil
     go_simp
     have q0 := BP2.out.cell_some (i := 1) rfl
     have q1 := BP2.out.frozen 1 (by simp)
     go_simp
     refine hK.out _ _ (trivial) (fun hHeld => ?_)
     try simp only [Act.put, pa, pb, pc]
     refine wpAnyH_done (by kernel_rfl) ?_ _
     have BP3 := BP2.out.set_ 1 (.slice A2 (i + 1) cc2)
     have SP3 := SP2.out.only ((Only.refl [w.heap.size] w2).setCell (p := ⟨w.heap.size, 1, none⟩) (by simp) (.slice A2 (i + 1) cc2)) (fun g hg hm => by simp at hm; subst hm; exact slc_ne SP2.out BP2.out (by decide) hg)
     have O3 := Below.setCell (bstep2 OB.out P1.out OW2.out FR.out) (p := ⟨w.heap.size, 1, none⟩) (Nat.le_refl _) (.slice A2 (i + 1) cc2)
     have hfr : ∀ g ∈ ownB (.slice A2 (i + 1) cc2), w.heap.size ≤ g := fun g hg => (FR2.out g hg).elim (FR.out g) (fun h => by have := OB.out.size; have := P1.out.size; omega)
     have BP4 := Lib.hid BP3
     have SP4 := Lib.hid SP3
     have O4 := Lib.hid O3
     have HFR := Lib.hid hfr
     clear BP3 SP3 O3 hfr q0 q1
     go_wp2_with fail
     go_roundw
     case rel =>
      refine ⟨i + 1, by omega, by go_num, .slice A2 (i + 1) cc2, BP4, ?_, O4, HFR⟩
      rw [show List.replicate (i + 1) Fr.nil = List.replicate i Fr.nil ++ [Fr.nil] from List.replicate_succ']
      exact SP4
     case measure => simp [intOf]; omega
  ·have e : i = k := by omega
   subst e
   go_wp2_with fail
   go_ret2
   exact ⟨w.heap.size, v, by first | rfl | simp, BP.out, SP.out, OB.out, Nat.le_refl _, FR.out⟩
end Go.Proofs.YtbelcgjbhpjnpaaGreat.Sh

/- pool by its contracts: the word, find. -/
namespace Go.Proofs.YtbelcgjbhpjnpaaGreat.Sh
open Go.RowKit Pk Dk Pg
attribute [local go_sem ↓] Go.wp_at_zero Go.wp_at_succ
/-- where a pool lies -/
structure Y where
 x : X
 pb : Nat
 fg : Nat
 cp : Nat
/-- a pool's state -/
structure PS where
 c : C
 l : List Fr
 hand : Nat
def pp (b : Nat) : Value := .pointer (some ⟨b, 0, none⟩)
def Y.fp (y : Y) : List Nat := y.pb :: y.fg :: y.x.fp
structure AtP (w : World) (y : Y) (n : Nat) (s : PS) : Prop where
 hp : Blk w y.pb 148 #[sp y.x.b, .slice (some ⟨y.fg, 0, none⟩) s.l.length y.cp, .int .i64 (s.hand : Nat)]
 hf : Slc w 150 5 (.slice (some ⟨y.fg, 0, none⟩) s.l.length y.cp) s.l.length (frc s.l)
 hs : At w y.x n s.c
 n1 : y.pb ∉ y.x.fp
 n2 : y.fg ∉ y.x.fp
 l1 : 1 ≤ s.l.length
 l2 : s.l.length ≤ 32
 lh : s.hand < s.l.length
section
variable {w w' : World} {y : Y} {n : Nat} {s : PS} {S : List Nat}
theorem AtP.n3 (h : AtP w y n s) : y.pb ≠ y.fg := fun e => slc_ne h.hf h.hp (by decide) (by simp [ownB, e])
theorem AtP.only (h : AtP w y n s) (ho : Only S w w') (hd : ∀ g ∈ y.fp, g ∉ S) : AtP w' y n s :=
 ⟨h.hp.only ho (hd _ (by simp [Y.fp])), h.hf.only ho (fun g hg => hd g (by simp [ownB] at hg; simp [Y.fp, hg])), h.hs.only ho (fun g hg => hd g (by simp [Y.fp, hg])), h.n1, h.n2, h.l1, h.l2, h.lh⟩
theorem AtP.below (h : AtP w y n s) (hb : Below w.heap.size w w') : AtP w' y n s := h.only (S := []) (.of_below hb) (by simp)
theorem AtP.drew (h : AtP w y n s) : AtP w.drew y n s := h.below ((Below.refl _ _).drew)
theorem AtP.lt (h : AtP w y n s) : ∀ g ∈ y.fp, g < w.heap.size := by
 intro g hg
 simp only [Y.fp, List.mem_cons] at hg
 rcases hg with rfl | rfl | hg
 ·exact h.hp.lt
 ·exact h.hf.lt _ (by simp [ownB])
 ·exact h.hs.lt g hg
theorem AtP.p0 (h : AtP w y n s) : w.cell? ⟨y.pb, 0, none⟩ = some (.pointer (some ⟨y.x.b, 0, none⟩)) := h.hp.cell_some rfl
theorem AtP.p1 (h : AtP w y n s) : w.cell? ⟨y.pb, 1, none⟩ = some (.slice (some ⟨y.fg, 0, none⟩) s.l.length y.cp) := h.hp.cell_some rfl
theorem AtP.p2 (h : AtP w y n s) : w.cell? ⟨y.pb, 2, none⟩ = some (.int .i64 (s.hand : Nat)) := h.hp.cell_some rfl
theorem AtP.frs (h : AtP w y n s) : FrsAt w y.fg s.l := by
 obtain ⟨rest, B, _⟩ := h.hf.blk
 exact .of B
/-- the store's side changed -/
theorem AtP.store (h : AtP w y n s) {c' : C} (p : ∃ x', x'.b = y.x.b ∧ x'.L = y.x.L ∧ At w' x' n c' ∧ Only y.x.fp w w' ∧ ∀ g ∈ x'.fp, g ∈ y.x.fp ∨ w.heap.size ≤ g) :
  ∃ y', y'.pb = y.pb ∧ y'.fg = y.fg ∧ y'.cp = y.cp ∧ y'.x.b = y.x.b ∧ y'.x.L = y.x.L ∧ AtP w' y' n { s with c := c' } ∧ Only y.fp w w' ∧ ∀ g ∈ y'.fp, g ∈ y.fp ∨ w.heap.size ≤ g := by
 obtain ⟨x', e1, e2, A, o, fr⟩ := p
 have l1 := h.lt y.pb (by simp [Y.fp])
 have l2 := h.lt y.fg (by simp [Y.fp])
 refine ⟨⟨x', y.pb, y.fg, y.cp⟩, rfl, rfl, rfl, e1, e2, ⟨?_, h.hf.only o (fun g hg => by simp [ownB] at hg; subst hg; exact h.n2), A, ?_, ?_, h.l1, h.l2, h.lh⟩, o.mono (fun g hg _ => by simp [Y.fp, hg]), ?_⟩
 ·show Blk w' y.pb _ #[sp x'.b, _, _]
  rw [e1]
  exact h.hp.only o h.n1
 ·exact fun hg => (fr _ hg).elim h.n1 (fun h => absurd l1 (Nat.not_lt.2 h))
 ·exact fun hg => (fr _ hg).elim h.n2 (fun h => absurd l2 (Nat.not_lt.2 h))
 ·intro g hg
  simp only [Y.fp, List.mem_cons] at hg ⊢
  rcases hg with rfl | rfl | hg
  ·exact .inl (.inl rfl)
  ·exact .inl (.inr (.inl rfl))
  ·exact (fr g hg).imp (fun h => .inr (.inr h)) id
end
set_option maxHeartbeats 1000000 in
theorem find_any {w : World} {y : Y} {n : Nat} {s : PS} (h : AtP w y n s) (l : Int) :
  Calls Tryz.prog 127 #[pp y.pb, .int .i64 l] w fun e w' => e = .returned (.int .i64 (findF s.l l)) ∧ Below w.heap.size w w' := by
 have O0 := Lib.hid (belowAlloc (Below.refl w.heap.size w) (.cells #[.int .i64 l] 3))
 have B0 := Lib.hid (Blk.new w 3 #[.int .i64 l])
 have H0 := h.below O0.out
 have q0 := B0.out.cell_some (i := 0) rfl
 have KI := Lib.hid (ixfind_any y.fg s.l.length y.cp w.heap.size l s.l H0.frs rfl (by have := h.l2; omega) q0)
 have p1 := H0.p1
 obtain ⟨R, hR⟩ : ∃ R, findF s.l l = R := ⟨_, rfl⟩
 rw [hR]
 unfold findF at hR
 generalize s.l.length = tn at *
 clear H0 h
 unfold pp
 by_cases h1 : l < 0
 ·rw [if_pos h1] at hR
  subst hR
  go_enter Tryz.func127, Tryz.ntmps127
  go_wp2_with fail
  go_ret
  exact ⟨by first | rfl | simp, O0.out⟩
 ·rw [if_neg h1] at hR
  rw [hR] at KI
  clear hR
  go_enter Tryz.func127, Tryz.ntmps127
  go_wp2_with fail
  refine KI.out.mono ?_
  rintro e w1 ⟨rfl, hb1⟩
  have O1 := Lib.hid (bstep O0.out hb1)
  clear hb1
  go_wp2_with fail
  go_ret
  exact ⟨by first | rfl | simp, O1.out⟩
end Go.Proofs.YtbelcgjbhpjnpaaGreat.Sh

/- pool by its contracts: held, Let, New. -/
namespace Go.Proofs.YtbelcgjbhpjnpaaGreat.Sh
open Go.RowKit Pk Dk Pg
attribute [local go_sem ↓] Go.wp_at_zero Go.wp_at_succ
theorem frc_set (l : List Fr) (k j : Nat) (hj : j < 5) (f f' : Fr) (u : Value) (hf : l[k]? = some f) (hu : f'.cs = f.cs.set j u) : (frc l).set (k * 5 + j) u = frc (l.set k f') := by
 induction l generalizing k with
 | nil => simp at hf
 | cons a l ih =>
  have e5 : a.cs.length = 5 := rfl
  cases k with
  | zero =>
   simp at hf
   subst hf
   simp only [frc, List.flatMap_cons, List.set_cons_zero, Nat.zero_mul, Nat.zero_add] at ih ⊢
   rw [List.set_append_left _ _ (by omega), hu]
  | succ k =>
   simp at hf
   have := ih k hf
   simp only [frc, List.flatMap_cons, List.set_cons_succ] at this ⊢
   rw [List.set_append_right _ _ (by omega), e5, show (k + 1) * 5 + j - 5 = k * 5 + j from by omega, this]
section
variable {w w' : World} {y : Y} {n : Nat} {s : PS} {S : List Nat}
/-- one field of a frame is stored -/
theorem AtP.setF (h : AtP w y n s) (k j : Nat) (hj : j < 5) {f : Fr} (f' : Fr) (u : Value) (hf : s.l[k]? = some f) (hu : f'.cs = f.cs.set j u) :
  w.frozen? ⟨y.fg, k * 5 + j, none⟩ = false ∧ AtP (w.setCell ⟨y.fg, k * 5 + j, none⟩ u) y n { s with l := s.l.set k f' } ∧ Only y.fp w (w.setCell ⟨y.fg, k * 5 + j, none⟩ u) := by
 have hk : k < s.l.length := (List.getElem?_eq_some_iff.1 hf).1
 have hl := frc_length s.l
 obtain ⟨rest, B, hr, _, hm⟩ := h.hf.blk
 have o : Only [y.fg] w (w.setCell ⟨y.fg, k * 5 + j, none⟩ u) := (Only.refl _ _).setCell (by simp) _
 have B2 := B.set_ (k * 5 + j) u
 rw [List.setIfInBounds_toArray, List.set_append_left _ _ (by omega), frc_set s.l k j hj f f' u hf hu] at B2
 refine ⟨B.frozen _ (by simp; omega), ⟨?_, ?_, h.hs.only o (fun g hg hm => by simp at hm; subst hm; exact h.n2 hg), h.n1, h.n2, by simpa using h.l1, by simpa using h.l2, by simpa using h.lh⟩, o.mono (fun g hg _ => by simp at hg; subst hg; simp [Y.fp])⟩
 ·have := h.hp.only o (by simpa using h.n3)
  simpa using this
 ·refine ⟨by rw [frc_length], .inr ⟨y.fg, y.cp, rest, by simp, B2, by rw [frc_length, List.length_set]; omega, hm⟩⟩
/-- the hand moves -/
theorem AtP.setH (h : AtP w y n s) (k : Nat) (hk : k < s.l.length) :
  w.frozen? ⟨y.pb, 2, none⟩ = false ∧ AtP (w.setCell ⟨y.pb, 2, none⟩ (.int .i64 (k : Nat))) y n { s with hand := k } ∧ Only y.fp w (w.setCell ⟨y.pb, 2, none⟩ (.int .i64 (k : Nat))) := by
 have o : Only [y.pb] w (w.setCell ⟨y.pb, 2, none⟩ (.int .i64 (k : Nat))) := (Only.refl _ _).setCell (by simp) _
 have n3 := h.n3
 refine ⟨h.hp.frozen 2 (by simp), ⟨h.hp.set_ 2 _, h.hf.only o (fun g hg hm => by simp [ownB] at hg hm; omega), h.hs.only o (fun g hg hm => by simp at hm; subst hm; exact h.n1 hg), h.n1, h.n2, h.l1, h.l2, hk⟩, o.mono (fun g hg _ => by simp at hg; subst hg; simp [Y.fp])⟩
end
theorem ixF_le (b : Fr → Bool) (l : List Fr) : ixF b l = -1 ∨ ∃ k f, ixF b l = ((k : Nat) : Int) ∧ l[k]? = some f ∧ b f = true := by
 unfold ixF
 by_cases h : l.findIdx b < l.length
 ·rw [if_pos h]
  exact .inr ⟨l.findIdx b, l[l.findIdx b], rfl, List.getElem?_eq_getElem h, List.findIdx_getElem⟩
 ·rw [if_neg h]
  exact .inl rfl
theorem findF_le (l : List Fr) (p : Int) : findF l p = -1 ∨ ∃ k f, findF l p = ((k : Nat) : Int) ∧ l[k]? = some f ∧ f.page = p ∧ 0 ≤ p := by
 unfold findF
 by_cases h : p < 0
 ·rw [if_pos h]; exact .inl rfl
 ·rw [if_neg h]
  exact (ixF_le _ l).imp id (fun ⟨k, f, e1, e2, e3⟩ => ⟨k, f, e1, e2, by simpa using e3, by omega⟩)
/-- the place of a page's frame, if it is held -/
def PS.heldF (s : PS) (p : Int) : Option (Nat × Fr) :=
 if findF s.l p < 0 then none else match s.l[(findF s.l p).toNat]? with
  | none => none
  | some f => if f.held = 0 then none else some ((findF s.l p).toNat, f)
def heldV (y : Y) : Option (Nat × Fr) → Value
 | none => .tuple #[.pointer none, .int .i64 16]
 | some (k, _) => .tuple #[.pointer (some ⟨y.fg, k * 5, none⟩), .int .i64 0]
set_option maxRecDepth 100000 in
set_option maxHeartbeats 2000000 in
theorem held_any {w : World} {y : Y} {n : Nat} {s : PS} (h : AtP w y n s) (p : Int) :
  Calls Tryz.prog 129 #[pp y.pb, .int .i64 p] w fun e w' => e = .returned (heldV y (s.heldF p)) ∧ Below w.heap.size w w' := by
 have KF := Lib.hid (find_any h p)
 have HB := Lib.hid (fun w' (hb : Below w.heap.size w w') => h.below hb)
 obtain ⟨R, hR⟩ : ∃ R, heldV y (s.heldF p) = R := ⟨_, rfl⟩
 rw [hR]
 unfold PS.heldF at hR
 unfold pp at *
 rcases findF_le s.l p with e | ⟨k, f, e, hf, _, _⟩
 ·rw [e, if_pos (by omega)] at hR
  rw [e] at KF
  subst hR
  unfold heldV
  clear h e
  go_enter Tryz.func129, Tryz.ntmps129
  go_wp2_with fail
  refine KF.out.mono ?_
  rintro e w1 ⟨rfl, hb1⟩
  have O1 := Lib.hid hb1
  clear hb1
  go_wp2_with fail
  go_ret2
  exact ⟨by first | rfl | simp, O1.out⟩
 ·rw [e, if_neg (by omega), show ((k : Nat) : Int).toNat = k from by omega, hf] at hR
  rw [e] at KF
  have hk : k < s.l.length := (List.getElem?_eq_some_iff.1 hf).1
  have hkI : (k : Int) < (s.l.length : Int) := by omega
  have hk0 : ¬ (k : Int) < 0 := by omega
  have HX := Lib.hid (fun w' (hb : Below w.heap.size w w') => (show w'.cell? ⟨y.pb, 1, none⟩ = some (.slice (some ⟨y.fg, 0, none⟩) s.l.length y.cp) ∧ w'.cell? ⟨y.fg, k * 5 + 2, none⟩ = some (.int .i64 f.held) from ⟨(HB.out w' hb).p1, ((HB.out w' hb).frs k f hf).2.2.1⟩))
  have HL := Lib.hid (show s.l.length ≤ 32 from h.l2)
  dsimp only at hR
  by_cases hh : f.held = 0
  ·rw [if_pos hh] at hR
   subst hR
   have hq : (f.held == 0) = true := by rw [beq_iff_eq]; exact hh
   unfold heldV
   clear h e hf hk hh
   generalize f.held = fh at *
   generalize s.l.length = tn at *
   go_enter Tryz.func129, Tryz.ntmps129
   go_wp2_with fail
   refine KF.out.mono ?_
   rintro e w1 ⟨rfl, hb1⟩
   have O1 := Lib.hid hb1
   obtain ⟨x1, x2⟩ := HX.out w1 hb1
   clear hb1
   go_wp2_with fail
   go_ret2
   exact ⟨by first | rfl | simp, O1.out⟩
  ·rw [if_neg hh] at hR
   subst hR
   have hq : (f.held == 0) = false := by rw [beq_eq_false_iff_ne]; exact hh
   unfold heldV
   clear h e hf hk hh
   generalize f.held = fh at *
   generalize s.l.length = tn at *
   go_enter Tryz.func129, Tryz.ntmps129
   go_wp2_with fail
   refine KF.out.mono ?_
   rintro e w1 ⟨rfl, hb1⟩
   have O1 := Lib.hid hb1
   obtain ⟨x1, x2⟩ := HX.out w1 hb1
   clear hb1
   go_wp2_with fail
   go_ret2
   exact ⟨by first | rfl | simp, O1.out⟩
end Go.Proofs.YtbelcgjbhpjnpaaGreat.Sh

/- pool by its contracts: Let, New, Store. -/
namespace Go.Proofs.YtbelcgjbhpjnpaaGreat.Sh
open Go.RowKit Pk Dk Pg
attribute [local go_sem ↓] Go.wp_at_zero Go.wp_at_succ
def PS.letF (s : PS) (p : Int) : PS × Int := match s.heldF p with
 | none => (s, 16)
 | some (k, f) => ({ s with l := s.l.set k { f with held := f.held - 1 } }, 0)
theorem heldF_some {s : PS} {p : Int} {k : Nat} {f : Fr} (h : s.heldF p = some (k, f)) : s.l[k]? = some f ∧ f.held ≠ 0 ∧ findF s.l p = k := by
 unfold PS.heldF at h
 rcases findF_le s.l p with e | ⟨j, g, e, hf, _, _⟩
 ·rw [e, if_pos (by omega)] at h
  cases h
 ·rw [e, if_neg (by omega), show ((j : Nat) : Int).toNat = j from by omega, hf] at h
  dsimp only at h
  split at h
  ·cases h
  ·rename_i hh
   injection h with h
   injection h with h1 h2
   subst h1 h2
   exact ⟨hf, hh, e⟩
/-- a pool behind a call -/
def PostP (w w' : World) (y : Y) (n : Nat) (s' : PS) : Prop := ∃ y', y'.pb = y.pb ∧ y'.fg = y.fg ∧ y'.cp = y.cp ∧ y'.x.b = y.x.b ∧ y'.x.L = y.x.L ∧ AtP w' y' n s' ∧ Only y.fp w w' ∧ ∀ g ∈ y'.fp, g ∈ y.fp ∨ w.heap.size ≤ g
theorem PostP.self {w w' : World} {y : Y} {n : Nat} {s' : PS} (h : AtP w' y n s') (ho : Only y.fp w w') : PostP w w' y n s' := ⟨y, rfl, rfl, rfl, rfl, rfl, h, ho, fun _ hg => .inl hg⟩
theorem PostP.trans {w w1 w2 : World} {y y1 : Y} {n : Nat} {s2 : PS} (e1 : y1.pb = y.pb ∧ y1.fg = y.fg ∧ y1.cp = y.cp ∧ y1.x.b = y.x.b ∧ y1.x.L = y.x.L) (o : Only y.fp w w1) (f : ∀ g ∈ y1.fp, g ∈ y.fp ∨ w.heap.size ≤ g) (p : PostP w1 w2 y1 n s2) : PostP w w2 y n s2 := by
 obtain ⟨y2, a1, a2, a3, a4, a5, A, o2, f2⟩ := p
 refine ⟨y2, a1.trans e1.1, a2.trans e1.2.1, a3.trans e1.2.2.1, a4.trans e1.2.2.2.1, a5.trans e1.2.2.2.2, A, o.trans_of o2 (fun g hg hlt => (f g hg).elim id (fun h => by omega)), fun g hg => ?_⟩
 rcases f2 g hg with h | h
 ·exact f g h
 ·exact .inr (Nat.le_trans o.size h)
set_option maxRecDepth 100000 in
set_option maxHeartbeats 2000000 in
theorem let_any {w : World} {y : Y} {n : Nat} {s : PS} (h : AtP w y n s) (p : Int) (hb : ∀ f ∈ s.l, -1000 ≤ f.held ∧ f.held ≤ 4000000000000) :
  Calls Tryz.prog 56 #[pp y.pb, .int .i64 p] w fun e w' => e = .returned (.int .i64 (s.letF p).2) ∧ AtP w' y n (s.letF p).1 ∧ Only y.fp w w' := by
 have KH := Lib.hid (held_any h p)
 have HB := Lib.hid (fun w' (hb : Below w.heap.size w w') => h.below hb)
 obtain ⟨R, hR⟩ : ∃ R, s.letF p = R := ⟨_, rfl⟩
 rw [hR]
 unfold PS.letF at hR
 unfold pp at *
 cases hd : s.heldF p with
 | none =>
  rw [hd] at hR KH
  dsimp only at hR
  subst hR
  unfold heldV at KH
  clear h hd hb
  go_enter Tryz.func56, Tryz.ntmps56
  go_wp2_with fail
  refine KH.out.mono ?_
  rintro e w1 ⟨rfl, hb1⟩
  have O1 := Lib.hid hb1
  clear hb1
  go_wp2_with fail
  go_ret
  exact ⟨by first | rfl | simp, HB.out _ O1.out, .of_below O1.out⟩
 | some r =>
  obtain ⟨k, f⟩ := r
  obtain ⟨hf, hh, _⟩ := heldF_some hd
  rw [hd] at hR KH
  dsimp only at hR
  subst hR
  have hfb := hb f (List.mem_of_getElem? hf)
  have HS := Lib.hid (fun w' (hb : Below w.heap.size w w') => (HB.out w' hb).setF k 2 (by omega) { f with held := f.held - 1 } (.int .i64 (f.held - 1)) hf rfl)
  have HC := Lib.hid (fun w' (hb : Below w.heap.size w w') => ((HB.out w' hb).frs k f hf).2.2.1)
  have m1 : IntKind.i64.wrap (f.held - 1) = f.held - 1 := IntWalk.i64_in _ (by omega)
  unfold heldV at KH
  clear h hd hb hf hfb hh
  generalize f.held = fh at *
  go_enter Tryz.func56, Tryz.ntmps56
  go_wp2_with fail
  refine KH.out.mono ?_
  rintro e w1 ⟨rfl, hb1⟩
  have O1 := Lib.hid hb1
  obtain ⟨z1, A1, o1⟩ := HS.out w1 hb1
  have A1 := Lib.hid A1
  have o1 := Lib.hid o1
  have c1 := HC.out w1 hb1
  clear hb1
  go_wp2_with fail
  go_ret
  exact ⟨by first | rfl | simp, A1.out, (Only.of_below O1.out).trans o1.out⟩
set_option maxRecDepth 100000 in
set_option maxHeartbeats 2000000 in
theorem pmake_any {w : World} {y : Y} {n : Nat} {s : PS} (h : AtP w y n s) (v : ByteArray) (hs : v.size ≤ 9223372036854775807) (hep : 0 ≤ s.c.ep ∧ s.c.ep ≤ 1099511627776) (hc : s.c.d.calls ≤ 3999999999999999990) (hr : s.c.d.armed ≤ 9223372036854775807) :
  Calls Tryz.prog 53 #[pp y.pb, .string v] w fun e w' => e = .returned (.tuple #[.int .i64 (s.c.newF n v.data.toList).2.1, .int .i64 (s.c.newF n v.data.toList).2.2]) ∧ PostP w w' y n { s with c := (s.c.newF n v.data.toList).1 } := by
 have KN := Lib.hid (new_any h.hs v hs hep hc hr)
 have HP := Lib.hid (fun w' (p : Post w w' y.x n (s.c.newF n v.data.toList).1) => (show PostP w w' y n { s with c := (s.c.newF n v.data.toList).1 } from h.store p))
 have p0 := h.p0
 generalize (s.c.newF n v.data.toList) = R at *
 clear h hs hep hc hr
 unfold pp sp at *
 go_enter Tryz.func53, Tryz.ntmps53
 go_wp2_with fail
 refine KN.out.mono ?_
 rintro e w1 ⟨rfl, P1⟩
 have P2 := Lib.hid (HP.out w1 P1)
 clear P1
 go_wp2_with fail
 go_ret2
 exact ⟨by first | rfl | simp, P2.out⟩
theorem pstore_any {w : World} {y : Y} {n : Nat} {s : PS} (h : AtP w y n s) :
  Calls Tryz.prog 60 #[pp y.pb] w fun e w' => e = .returned (sp y.x.b) ∧ w = w' := by
 have p0 := h.p0
 clear h
 unfold pp sp at *
 go_enter Tryz.func60, Tryz.ntmps60
 go_wp2_with fail
 go_ret
 exact ⟨by first | rfl | simp, rfl⟩
end Go.Proofs.YtbelcgjbhpjnpaaGreat.Sh
