/- the document's store by its contracts: Leaving, Next, Commit, Abort, Pages. -/
import Derived.Test.YtbelcgjbhpjnpaaGreatR4
set_option linter.all false
set_option linter.unusedVariables false
set_option linter.unusedSimpArgs false
set_option maxRecDepth 100000
namespace Go.Proofs.YtbelcgjbhpjnpaaGreat.Sh
open Go.RowKit Pk Dk Pg
attribute [local go_sem ↓] Go.wp_at_zero Go.wp_at_succ exec_app
set_option maxRecDepth 100000 in
set_option maxHeartbeats 1000000 in
theorem rabort_any {w : World} {b : Nat} {nv ov : Value} {a : St} (h : RAt w b nv ov a) :
  Calls Tryz.prog 70 #[rp b] w fun e w' => e = .returned (.tuple #[]) ∧ RTo w w' b nv ov { a with now := oldS a.old } := by
 have f1 := h.f1
 have f2 := h.f2
 have z1 := h.hb.frozen 1 (by simp)
 obtain ⟨A, c, hv⟩ := h.ho.val
 have hvv : ov = .slice A a.old.length c := by rw [hv, oldS_length]
 have R := Lib.hid (show RTo w (w.setCell ⟨b, 1, none⟩ (.slice A a.old.length c)) b nv ov { a with now := oldS a.old } from by
  rw [← hvv]
  have o1 : Only [b] w (w.setCell ⟨b, 1, none⟩ ov) := (Only.refl _ _).setCell (by simp) _
  have ho' := h.ho.only o1 (fun g hg hm => slc_ne h.ho h.hb (by decide) (by rw [← List.mem_singleton.1 hm]; exact hg))
  exact ⟨ov, ov, ⟨h.hb.set_ 1 ov, ho', ho', by rw [oldS_length]; exact h.lo, h.lo, h.lm, h.le⟩, o1, fun g hg => by
   rcases List.mem_cons.1 hg with rfl | hg
   ·exact .inl (List.mem_cons_self ..)
   ·exact .inl (List.mem_cons_of_mem _ (List.mem_append_right _ ((List.mem_append.1 hg).elim id id)))⟩)
 rw [hvv] at f2
 clear h hv hvv
 unfold rp
 go_enter Tryz.func70, Tryz.ntmps70
 go_wp2_with fail
 go_end0
 exact ⟨by first | rfl | simp, R.out⟩
set_option maxRecDepth 100000 in
set_option maxHeartbeats 1000000 in
theorem rpages14_any {w : World} {v : Value} {l : List Sl14} (h : SlAt w v l) (hl : l.length ≤ 512) :
  Calls Tryz.prog 142 #[v] w fun e w' => ∃ A cc, e = .returned (.slice A (pgsS l l.length).length cc) ∧ Slc w' 3 1 (.slice A (pgsS l l.length).length cc) (pgsS l l.length).length (nvs' (pgsS l l.length)) ∧ Below w.heap.size w w' := by
 obtain ⟨A, c, rfl⟩ := h.val
 have HC := Lib.hid (fun k o ho (W : World) (hb : Below w.heap.size w W) => (h.below hb).get k o ho)
 obtain ⟨n, hn⟩ : ∃ n, l.length = n := ⟨_, rfl⟩
 rw [hn] at hl HC ⊢
 have HN := Lib.hid hn
 clear h hn
 go_enter Tryz.func142, Tryz.ntmps142
 go_wp2_with fail
 go_loopw [3, 4] (fun bv iv wr => ∃ k : Nat, k ≤ n ∧ iv = .int .i64 k ∧ Slc wr 3 1 bv (pgsS l k).length (nvs' (pgsS l k)) ∧ Hid (Below w.heap.size w wr) ∧ Hid (∀ g ∈ ownB bv, w.heap.size ≤ g)) (fun _ iv _ => n - (intOf iv).toNat)
 case atStart => exact ⟨0, Nat.zero_le _, rfl, Slc.nil _ _ _, Lib.hid (Below.refl _ _), Lib.hid (by simp [ownB])⟩
 case round =>
  obtain ⟨k, hk, rfl, S, O, F⟩ := hrel
  obtain ⟨VA, vc, rfl⟩ := slc_val S
  by_cases h' : k < n
  ·have hkI : (k : Int) < (n : Int) := by omega
   obtain ⟨o, ho⟩ : ∃ o, l[k]? = some o := ⟨_, List.getElem?_eq_getElem (by have := HN.out; omega)⟩
   obtain ⟨g, cp, hv, c0, _, _⟩ := HC.out k o ho wr O.out
   injection hv with e1 e2 e3
   subst e1 e3
   clear e2
   have hnx : pgsS l (k + 1) = pgsS l k ++ if o.isSome then [(k : Int)] else [] := by
    show pgsS l k ++ _ = _
    rw [ho]; rfl
   have hle : (pgsS l k).length ≤ k := by
    rw [pgsS_length l k (by have := HN.out; omega)]
    exact countP_le_take _ _ _
   cases hos : o.isSome
   ·rw [hos] at c0 hnx
    rw [if_neg (by simp), List.append_nil] at hnx
    have SX := Lib.hid S
    have HX := Lib.hid hnx
    clear S hnx ho
    go_wp2_with fail
    go_roundw
    case rel => exact ⟨k + 1, by omega, by go_num, by rw [HX.out]; exact SX.out, O, F⟩
    case measure => simp [intOf]; omega
   ·rw [hos] at c0 hnx
    rw [if_pos rfl] at hnx
    obtain ⟨v', w2, ea, S2, ow, fr⟩ := append_one (P := Tryz.prog) S 52 52 (.int .i64 0) 8 Tryz.underlying52 info_int2 rfl (.int .i64 (k : Int)) rfl (by unfold maxLen; omega) (by omega)
    obtain ⟨V2, vc2, rfl⟩ := slc_val S2
    have hlen : (pgsS l (k + 1)).length = (pgsS l k).length + 1 := by rw [hnx]; simp
    have EA := Lib.hid ea
    have SX := Lib.hid (show Slc w2 3 1 (.slice V2 ((pgsS l k).length + 1) vc2) (pgsS l (k + 1)).length (nvs' (pgsS l (k + 1))) from by rw [hlen, hnx, nvs'_append]; exact S2)
    have OX := Lib.hid (O.out.trans (ow.below_of O.out.size F.out))
    have FX := Lib.hid (show ∀ g' ∈ ownB (.slice V2 ((pgsS l k).length + 1) vc2), w.heap.size ≤ g' from fun g' hg => (fr g' hg).elim (F.out g') (fun h => Nat.le_trans O.out.size h))
    clear ea S2 ow fr S hnx hlen ho
    generalize (pgsS l k).length = pl at *
    go_wp2_with fail
    rw [EA.out]
    go_wp2_with fail
    go_roundw
    case rel => exact ⟨k + 1, by omega, by go_num, SX.out, OX, FX⟩
    case measure => simp [intOf]; omega
  ·obtain rfl : k = n := by omega
   have SX := Lib.hid S
   clear S
   go_wp2_with fail
   go_ret
   exact ⟨_, _, by first | rfl | simp, SX.out, O.out⟩
/-- how long the list is without its last empty pages -/
def trimN (l : List Sl14) : Nat → Nat
 | 0 => 0
 | k + 1 => if ((l[k]?).getD none).isSome then k + 1 else trimN l k
theorem trimN_le (l : List Sl14) : ∀ k, trimN l k ≤ k
 | 0 => Nat.le_refl _
 | k + 1 => by
  unfold trimN
  split
  ·exact Nat.le_refl _
  ·have := trimN_le l k; omega
/-- what a commit would commit -/
def St.nextF (a : St) : List (Option (List UInt8)) := (a.now.take (trimN a.now a.now.length)).map fun o => o.map Prod.snd
def unfr (o : Sl14) : Sl14 := o.map fun x => (false, x.2)
theorem next_old (a : St) : oldS a.nextF = (a.now.take (trimN a.now a.now.length)).map unfr := by
 unfold oldS St.nextF
 rw [List.map_map]
 apply List.map_congr_left
 intro o _
 cases o <;> rfl
set_option maxRecDepth 100000 in
set_option maxHeartbeats 2000000 in
theorem rnext_any {w : World} {b : Nat} {nv ov : Value} {a : St} (h : RAt w b nv ov a) :
  Calls Tryz.prog 19 #[rp b] w fun e w' => ∃ v', e = .returned v' ∧ SlAt w' v' (oldS a.nextF) ∧ Below w.heap.size w w' ∧ ∀ g ∈ ownB v', w.heap.size ≤ g := by
 rw [next_old]
 have ln := h.ln
 have HF := Lib.hid (fun (W : World) (hb : Below w.heap.size w W) => (h.below hb).f1)
 have HC := Lib.hid (fun k o ho (W : World) (hb : Below w.heap.size w W) => (h.hn.below hb).get k o ho)
 obtain ⟨A, c, hv⟩ := h.hn.val
 rw [hv] at HF HC
 generalize a.now = l at *
 obtain ⟨n, hn⟩ : ∃ n, l.length = n := ⟨_, rfl⟩
 rw [hn] at ln HC HF ⊢
 have HN := Lib.hid hn
 have f1 := HF.out w (Below.refl _ _)
 clear h hn hv
 unfold rp at *
 obtain ⟨T, hT⟩ : ∃ T, trimN l n = T := ⟨_, rfl⟩
 rw [hT]
 have HT := Lib.hid hT
 clear hT
 go_enter Tryz.func19, Tryz.ntmps19
 go_wp2_with fail
 go_loopw [4] (fun iv wr => ∃ k : Nat, k ≤ n ∧ iv = .int .i64 k ∧ Hid (trimN l k = T) ∧ wr = w) (fun iv _ => (intOf iv).toNat)
 case atStart => exact ⟨n, Nat.le_refl _, rfl, HT, rfl⟩
 case round =>
  obtain ⟨k, hk, rfl, HK, hww⟩ := hrel
  subst wr
  have hstop : (0 < k ∧ ∃ o, l[k - 1]? = some o ∧ o.isSome = false) ∨ (k = T ∧ (k = 0 ∨ (0 < k ∧ ∃ o, l[k - 1]? = some o ∧ o.isSome = true))) := by
   have := HK.out
   cases k with
   | zero => exact .inr ⟨this, .inl rfl⟩
   | succ k =>
    unfold trimN at this
    obtain ⟨o, ho⟩ : ∃ o, l[k]? = some o := ⟨_, List.getElem?_eq_getElem (by have := HN.out; omega)⟩
    rw [ho] at this
    simp only [Option.getD_some] at this
    by_cases hos : o.isSome = true
    ·rw [if_pos hos] at this
     exact .inr ⟨this, .inr ⟨by omega, o, by simpa using ho, hos⟩⟩
    ·exact .inl ⟨by omega, o, by simpa using ho, by cases hb : o.isSome with | true => exact absurd hb hos | false => rfl⟩
  rcases hstop with ⟨h0, o, ho, hos⟩ | hkT
  ·obtain ⟨k, rfl⟩ : ∃ j, k = j + 1 := ⟨k - 1, by omega⟩
   rw [Nat.add_sub_cancel] at ho
   obtain ⟨g, cp, hv, c0, _, _⟩ := HC.out k o ho w (Below.refl _ _)
   injection hv with e1 e2 e3
   subst e1 e3
   clear e2
   rw [hos] at c0
   have HK2 := Lib.hid (show trimN l k = T from by
    have := HK.out
    unfold trimN at this
    rw [ho] at this
    simp only [Option.getD_some] at this
    rwa [if_neg (by rw [hos]; simp)] at this)
   have hI : (k : Int) < (n : Int) := by omega
   have hz : ((k + 1 : Nat) : Int) = (k : Int) + 1 := by omega
   have e4 : IntKind.i64.wrap ((k : Int) + 1 - 1) = (k : Int) := by rw [Int.add_sub_cancel]; exact IntWalk.i64_in _ (by omega)
   have e5 : IntKind.i64.wrap (k : Int) = (k : Int) := IntWalk.i64_in _ (by omega)
   have h0I : (0 : Int) < (k : Int) + 1 := by omega
   rw [hz]
   clear ho hz
   go_wp2_with fail
   go_roundw
   case rel => exact ⟨k, by omega, by first | rfl | go_num, HK2, trivial⟩
   case measure => simp [intOf] <;> omega
  ·obtain ⟨rfl, hk0⟩ := hkT
   have hkn := Lib.hid (show k ≤ n by omega)
   rcases hk0 with h0 | ⟨h0, o, ho, hos⟩
   ·have h0I : ¬ (0 : Int) < (k : Int) := by omega
    clear h0
    go_wp2_with fail
    go_loopw [3, 5, 6] (fun bv iv _ wr => ∃ i : Nat, i ≤ k ∧ iv = .int .i64 i ∧ SlAt wr bv ((l.take i).map unfr) ∧ Hid (Below w.heap.size w wr) ∧ Hid (∀ g ∈ ownB bv, w.heap.size ≤ g)) (fun _ iv _ _ => k - (intOf iv).toNat)
    case atStart => exact ⟨0, Nat.zero_le _, rfl, Slc.nil _ _ _, Lib.hid (Below.refl _ _), Lib.hid (by simp [ownB])⟩
    case round =>
     obtain ⟨i, hi, rfl, S, O, F⟩ := hrel
     obtain ⟨VA, vc, rfl⟩ := S.val
     have hlen : ((l.take i).map unfr).length = i := by have := HN.out; have := hkn.out; rw [List.length_map, List.length_take]; omega
     rw [hlen]
     by_cases h' : i < k
     ·omega
     ·have SX := Lib.hid S
      have hi0 : i = 0 := by omega
      subst hi0
      have hk0 : k = 0 := by omega
      subst hk0
      clear S
      go_wp2_with fail
      go_ret
      exact ⟨_, by first | rfl | simp, by first | exact SX.out | (have := SX.out; rw [hlen] at this; exact this), O.out, by first | exact F.out | (have := F.out; rw [hlen] at this; exact this)⟩
   ·obtain ⟨j, rfl⟩ : ∃ j, k = j + 1 := ⟨k - 1, by omega⟩
    rw [Nat.add_sub_cancel] at ho
    obtain ⟨g, cp, hv, c0, _, _⟩ := HC.out j o ho w (Below.refl _ _)
    have hv2 := hv
    injection hv with e1 e2 e3
    rw [hos] at c0
    rw [hv2] at f1
    have hI : (j : Int) < (n : Int) := by omega
    have e4 : IntKind.i64.wrap ((j : Int) + 1 - 1) = (j : Int) := by rw [Int.add_sub_cancel]; exact IntWalk.i64_in _ (by omega)
    have e5 : IntKind.i64.wrap (j : Int) = (j : Int) := IntWalk.i64_in _ (by omega)
    have h0I : (0 : Int) < (j : Int) + 1 := by omega
    have hz : ((j + 1 : Nat) : Int) = (j : Int) + 1 := by omega
    rw [hz]
    clear ho hz e1 e2 e3 h0 hv2 hos
    go_wp2_with fail
    go_loopw [3, 5, 6] (fun bv iv _ wr => ∃ i : Nat, i ≤ j + 1 ∧ iv = .int .i64 i ∧ SlAt wr bv ((l.take i).map unfr) ∧ Hid (Below w.heap.size w wr) ∧ Hid (∀ g ∈ ownB bv, w.heap.size ≤ g)) (fun _ iv _ _ => j + 1 - (intOf iv).toNat)
    case atStart => exact ⟨0, Nat.zero_le _, rfl, Slc.nil _ _ _, Lib.hid (Below.refl _ _), Lib.hid (by simp [ownB])⟩
    case round =>
     obtain ⟨i, hi, rfl, S, O, F⟩ := hrel
     obtain ⟨VA, vc, rfl⟩ := S.val
     have hlen : ((l.take i).map unfr).length = i := by have := HN.out; have := hkn.out; rw [List.length_map, List.length_take]; omega
     rw [hlen]
     by_cases h' : i < j + 1
     ·have hiI : (i : Int) < (j : Int) + 1 := by omega
      have hiN : (i : Int) < (n : Int) := by have := hkn.out; omega
      obtain ⟨o, ho⟩ : ∃ o, l[i]? = some o := ⟨_, List.getElem?_eq_getElem (by have := HN.out; have := hkn.out; omega)⟩
      obtain ⟨g, cp, hv, c0, c1, c2⟩ := HC.out i o ho wr O.out
      injection hv with e1 e2 e3
      subst e1 e3
      clear e2
      have f1 := HF.out wr O.out
      have B2 := Blk.new wr 91 #[.bool o.isSome, .bool false, .string (bS o)]
      have O2 := belowAlloc (Below.refl wr.heap.size wr) (.cells #[.bool o.isSome, .bool false, .string (bS o)] 91)
      have hz : (wr.alloc (.cells #[.bool o.isSome, .bool false, .string (bS o)] 91)).heap.size = wr.heap.size + 1 := by simp
      have S2 := S.below O2
      generalize hw2 : wr.alloc (.cells #[.bool o.isSome, .bool false, .string (bS o)] 91) = w2 at *
      have NN : Slc (w2.alloc (.cells #[.bool o.isSome, .bool false, .string (bS o)] 91)) 91 3 (.slice (some ⟨w2.heap.size, 0, none⟩) 1 1) 1 (slcs [unfr o]) :=
       ⟨by simp [slcs_length], .inr ⟨w2.heap.size, 1, [], rfl, by
        have e : slcs [unfr o] = [.bool o.isSome, .bool false, .string (bS o)] := by cases o <;> rfl
        rw [e]; exact Blk.new _ _ _, by simp [slcs_length], by unfold maxLen; omega⟩⟩
      obtain ⟨v3, w3, eb, S3, o3, f3⟩ := append_slcs (P := Tryz.prog) (Slc.alloc S2 (.cells #[.bool o.isSome, .bool false, .string (bS o)] 91)) NN 43 43 _ 24 Tryz.underlying43 info_slot rfl (by omega) (slcs_one _) (by rw [hlen]; unfold maxLen; omega) (by rw [hlen]; omega)
      rw [← slcs_append, hlen] at S3
      rw [hlen] at eb f3 o3
      obtain ⟨A3, c3, rfl⟩ := slc_val S3
      have q0 := B2.cell_some (i := 0) rfl
      have q1 := B2.cell_some (i := 1) rfl
      have q2 := B2.cell_some (i := 2) rfl
      have hnx : (l.take i).map unfr ++ [unfr o] = (l.take (i + 1)).map unfr := by
       rw [List.take_succ_eq_append_getElem (by have := (List.getElem?_eq_some_iff.1 ho).1; omega), List.map_append]
       have := (List.getElem?_eq_some_iff.1 ho).2
       rw [this]; rfl
      have H3 := Lib.hid (show SlAt w3 (.slice A3 (i + 1) c3) ((l.take (i + 1)).map unfr) ∧ Below w.heap.size w w3 ∧ ∀ g' ∈ ownB (.slice A3 (i + 1) c3), w.heap.size ≤ g' from by
       rw [hnx] at S3
       refine ⟨?_, (bstep O.out O2).trans (((belowAlloc (Below.refl w2.heap.size w2) (.cells #[.bool o.isSome, .bool false, .string (bS o)] 91)).mono (by have := O.out.size; omega)).trans (o3.below_of (by have := O.out.size; simp; omega) (fun x hx => by have := F.out x (by rw [hlen]; exact hx); omega))), fun g' hg => (f3 g' hg).elim (fun h => F.out g' (by rw [hlen]; exact h)) (fun h => by have := O.out.size; simp at h; omega)⟩
       have hl2 : ((l.take (i + 1)).map unfr).length = i + 1 := by rw [← hnx, List.length_append, hlen]; rfl
       unfold SlAt
       rw [hl2]
       exact S3)
      rw [hz] at eb
      have EB := Lib.hid eb
      subst hw2
      clear eb S3 o3 f3 S S2 NN O2 B2 hnx ho
      go_wp2_with fail
      rw [EB.out]
      go_wp2_with fail
      go_roundw
      case rel => exact ⟨i + 1, by omega, by go_num, H3.out.1, Lib.hid H3.out.2.1, Lib.hid H3.out.2.2⟩
      case measure => simp [intOf]; omega
     ·have SX := Lib.hid S
      have hie : ¬ (i : Int) < (j : Int) + 1 := by omega
      have hi2 := Lib.hid (show i = j + 1 by omega)
      clear S
      go_wp2_with fail
      go_ret
      exact ⟨.slice VA i vc, by first | rfl | simp, by have := SX.out; rw [hlen] at this; rw [hi2.out] at this ⊢; first | exact this | (rw [List.map_take] at this; exact this), O.out, by have := F.out; rw [hlen] at this; exact this⟩
def St.commitF (a : St) : St × Int := if a.free < needT a.nextF.length then (a, 11) else ({ a with now := oldS a.nextF, old := a.nextF, ep := a.ep + 1 }, 0)
theorem next_len (a : St) : a.nextF.length ≤ a.now.length := by
 unfold St.nextF
 rw [List.length_map, List.length_take]
 omega
set_option maxRecDepth 100000 in
set_option maxHeartbeats 2000000 in
theorem rcommit_any {w : World} {b : Nat} {nv ov : Value} {a : St} (h : RAt w b nv ov a) (hk : a.fresh + a.kept ≤ a.many) (he : a.ep ≤ 2000000000000) :
  Calls Tryz.prog 69 #[rp b] w fun e w' => e = .returned (.int .i64 a.commitF.2) ∧ RTo w w' b nv ov a.commitF.1 := by
 have KN := Lib.hid (rnext_any h)
 have hnl := next_len a
 have ln := h.ln
 have KD := Lib.hid (fun W => rneed_any13 a.nextF.length (by omega) W)
 have KF := Lib.hid (fun (W : World) (hb : Below w.heap.size w W) => rfree_any (h.below hb) hk)
 have HH := Lib.hid h
 obtain ⟨R, hR⟩ : ∃ R, a.commitF = R := ⟨_, rfl⟩
 rw [hR]
 unfold St.commitF at hR
 have lo := h.lo
 have le := h.le
 by_cases hc : a.free < needT a.nextF.length
 ·rw [if_pos hc] at hR
  subst hR
  have hcI : ((a.free : Nat) : Int) < ((needT a.nextF.length : Nat) : Int) := by omega
  generalize needT a.nextF.length = nd at *
  clear h hc
  unfold rp at *
  go_enter Tryz.func69, Tryz.ntmps69
  go_wp2_with fail
  refine KN.out.mono ?_
  rintro e w1 ⟨v', rfl, S1, hb1, fr1⟩
  obtain ⟨A, c, rfl⟩ := S1.val
  rw [oldS_length]
  have H1 := Lib.hid hb1
  clear S1 hb1 fr1
  go_wp2_with fail
  refine (KD.out _).mono ?_
  rintro e w2 ⟨rfl, rfl⟩
  go_wp2_with fail
  refine (KF.out w1 H1.out).mono ?_
  rintro e w2 ⟨rfl, m, rfl⟩
  go_wp2_with fail
  go_ret
  exact ⟨by first | rfl | simp, .self (HH.out.below (Below_drewN H1.out m)) (.of_below (Below_drewN H1.out m))⟩
 ·rw [if_neg hc] at hR
  subst hR
  have hcI : ¬ ((a.free : Nat) : Int) < ((needT a.nextF.length : Nat) : Int) := by omega
  have eE : IntKind.i64.wrap (a.ep + 1) = a.ep + 1 := IntWalk.i64_in _ (by omega)
  generalize needT a.nextF.length = nd at *
  clear h hc
  unfold rp at *
  go_enter Tryz.func69, Tryz.ntmps69
  go_wp2_with fail
  refine KN.out.mono ?_
  rintro e w1 ⟨v', rfl, S1, hb1, fr1⟩
  have H1 := Lib.hid hb1
  obtain ⟨A, c, rfl⟩ := S1.val
  have G1 := Lib.hid (show ∀ m, ∃ w', w' = (((w1.drewN m).setCell ⟨b, 2, none⟩ (.slice A a.nextF.length c)).setCell ⟨b, 1, none⟩ (.slice A a.nextF.length c)).setCell ⟨b, 3, none⟩ (.int .i64 (a.ep + 1)) ∧ RTo w w' b nv ov { a with now := oldS a.nextF, old := a.nextF, ep := a.ep + 1 } from fun m => by
   refine ⟨_, rfl, ?_⟩
   rw [oldS_length] at S1 fr1
   have B1 := (HH.out.hb.below hb1 HH.out.hb.lt).drewN m
   have o3 : Only [b] (w1.drewN m) ((((w1.drewN m).setCell ⟨b, 2, none⟩ (.slice A a.nextF.length c)).setCell ⟨b, 1, none⟩ (.slice A a.nextF.length c)).setCell ⟨b, 3, none⟩ (.int .i64 (a.ep + 1))) := (((Only.refl _ _).setCell (by simp) _).setCell (by simp) _).setCell (by simp) _
   have S2 : SlAt (w1.drewN m) (.slice A a.nextF.length c) (oldS a.nextF) := Slc.drewN S1 m
   have S3 := S2.only o3 (fun g hg hm => slc_ne S2 B1 (by decide) (by rw [← List.mem_singleton.1 hm]; exact hg))
   exact ⟨.slice A a.nextF.length c, .slice A a.nextF.length c, ⟨((B1.set_ 2 _).set_ 1 _).set_ 3 _, S3, S3, by rw [oldS_length]; show a.nextF.length ≤ 512; omega, by show a.nextF.length ≤ 512; omega, HH.out.lm, by show 0 ≤ a.ep + 1 ∧ a.ep + 1 ≤ 3000000000000; omega⟩, (Only.of_below (Below_drewN hb1 m)).trans o3, fun g hg => by
    rcases List.mem_cons.1 hg with rfl | hg
    ·exact .inl (List.mem_cons_self ..)
    ·exact .inr ((List.mem_append.1 hg).elim (fr1 g) (fr1 g))⟩)
  have B0 := HH.out.hb.below hb1 HH.out.hb.lt
  have c1 := B0.cell_some (i := 1) rfl
  have c2 := B0.cell_some (i := 2) rfl
  have c3 := B0.cell_some (i := 3) rfl
  have z1 := B0.frozen 1 (by simp)
  have z2 := B0.frozen 2 (by simp)
  have z3 := B0.frozen 3 (by simp)
  rw [oldS_length]
  clear S1 hb1 fr1 B0
  go_wp2_with fail
  refine (KD.out _).mono ?_
  rintro e w2 ⟨rfl, rfl⟩
  go_wp2_with fail
  refine (KF.out w1 H1.out).mono ?_
  rintro e w2 ⟨rfl, m, rfl⟩
  go_wp2_with fail
  go_ret
  obtain ⟨w', e, R⟩ := G1.out m
  subst e
  exact ⟨by first | rfl | simp, R⟩
end Go.Proofs.YtbelcgjbhpjnpaaGreat.Sh

/- the document's store by its contracts: Leaving. -/
namespace Go.Proofs.YtbelcgjbhpjnpaaGreat.Sh
open Go.RowKit Pk Dk Pg
attribute [local go_sem ↓] Go.wp_at_zero Go.wp_at_succ
def leavB (l : List Sl14) (o : List Sl14) (i : Nat) : Bool := ((o[i]?).getD none).isSome && (!((l[i]?).getD none).isSome || isFresh ((l[i]?).getD none))
def leavTo (l : List Sl14) (o : List Sl14) : Nat → Nat
 | 0 => 0
 | k + 1 => leavTo l o k + if leavB l o k then 1 else 0
theorem leavTo_le (l o : List Sl14) : ∀ k, leavTo l o k ≤ k
 | 0 => Nat.le_refl _
 | k + 1 => by have := leavTo_le l o k; unfold leavTo; split <;> omega
def St.leaving (a : St) : Nat := leavTo a.now (oldS a.old) a.old.length
set_option maxRecDepth 100000 in
set_option maxHeartbeats 4000000 in
theorem rleaving_any {w : World} {b : Nat} {nv ov : Value} {a : St} (h : RAt w b nv ov a) :
  Calls Tryz.prog 76 #[rp b] w fun e w' => e = .returned (.int .i64 (a.leaving : Nat)) ∧ w = w' := by
 have f1 := h.f1
 have f2 := h.f2
 have ln := h.ln
 have lo := h.lo
 obtain ⟨A, c, hv⟩ := h.hn.val
 obtain ⟨B, d, hu⟩ := h.ho.val
 have HC := Lib.hid (fun k o ho => h.hn.get k o ho)
 have HD := Lib.hid (fun k o ho => h.ho.get k o ho)
 rw [hv] at f1 HC
 rw [hu] at f2 HD
 rw [oldS_length] at f2 HD
 unfold St.leaving rp
 have hol := oldS_length a.old
 generalize oldS a.old = ol at *
 generalize a.now = l at *
 generalize a.old.length = m at *
 obtain ⟨n, hn⟩ : ∃ n, l.length = n := ⟨_, rfl⟩
 rw [hn] at ln HC f1
 have HN := Lib.hid hn
 have HM := Lib.hid hol
 clear h hn hv hu hol
 go_enter Tryz.func76, Tryz.ntmps76
 go_wp2_with fail
 go_loop [3, 4] (fun nv iv => ∃ k : Nat, k ≤ m ∧ iv = .int .i64 k ∧ nv = .int .i64 (leavTo l ol k : Nat)) (fun _ iv => m - (intOf iv).toNat)
 case atStart => exact ⟨0, by omega, rfl, rfl⟩
 case round =>
  obtain ⟨k, hk, rfl, rfl⟩ := hrel
  have hle := leavTo_le l ol k
  by_cases h1 : k < m
  ·obtain ⟨o, ho⟩ : ∃ o, ol[k]? = some o := ⟨_, List.getElem?_eq_getElem (by have := HM.out; omega)⟩
   obtain ⟨g, cp, hv2, c0, _, _⟩ := HD.out k o ho
   injection hv2 with e1 e2 e3
   subst e1 e3
   clear e2
   have hI : (k : Int) < (m : Int) := by omega
   have hs : leavTo l ol (k + 1) = leavTo l ol k + if (o.isSome && (!((l[k]?).getD none).isSome || isFresh ((l[k]?).getD none))) then 1 else 0 := by
    show leavTo l ol k + (if leavB l ol k then 1 else 0) = _
    unfold leavB
    rw [ho]; rfl
   by_cases hos : o.isSome = true
   ·rw [hos] at c0 hs
    by_cases h2 : k < n
    ·obtain ⟨x, hx⟩ : ∃ x, l[k]? = some x := ⟨_, List.getElem?_eq_getElem (by have := HN.out; omega)⟩
     obtain ⟨g', cp', hv3, d0, d1, _⟩ := HC.out k x hx
     injection hv3 with e1 e2 e3
     subst e1 e3
     clear e2
     have hnI : ¬ (n : Int) ≤ (k : Int) := by omega
     have hnI2 : (k : Int) < (n : Int) := by omega
     rw [hx] at hs
     simp only [Option.getD_some, Bool.true_and] at hs
     have hcs : (x.isSome = false ∧ isFresh x = false) ∨ (x.isSome = true ∧ isFresh x = false) ∨ (x.isSome = true ∧ isFresh x = true) := by
      cases x with
      | none => exact .inl ⟨rfl, rfl⟩
      | some y =>
       obtain ⟨f, z⟩ := y
       cases f
       ·exact .inr (.inl ⟨rfl, rfl⟩)
       ·exact .inr (.inr ⟨rfl, rfl⟩)
     generalize leavTo l ol k = t at *
     rcases hcs with ⟨hb, hf⟩ | ⟨hb, hf⟩ | ⟨hb, hf⟩
     all_goals
      rw [hb] at d0 hs
      rw [hf] at d1 hs
      have HS := Lib.hid hs
      clear hs ho hx hos hb hf
      go_wp2_with fail
      go_round
      case rel => exact ⟨k + 1, by omega, by go_num, by rw [HS.out]; simp⟩
      case measure => simp [intOf]; omega
    ·have hnI : (n : Int) ≤ (k : Int) := by omega
     rw [List.getElem?_eq_none (by have := HN.out; omega)] at hs
     have HS := Lib.hid hs
     generalize leavTo l ol k = t at *
     clear hs ho hos
     go_wp2_with fail
     go_round
     case rel => exact ⟨k + 1, by omega, by go_num, by rw [HS.out]; simp⟩
     case measure => simp [intOf]; omega
   ·have hos2 : o.isSome = false := by cases hb : o.isSome with | true => exact absurd hb hos | false => rfl
    rw [hos2] at c0 hs
    have HS := Lib.hid hs
    generalize leavTo l ol k = t at *
    clear hs ho hos hos2
    go_wp2_with fail
    go_round
    case rel => exact ⟨k + 1, by omega, by go_num, by rw [HS.out]; simp⟩
    case measure => simp [intOf]; omega
  ·obtain rfl : k = m := by omega
   go_wp2_with fail
   go_ret
   exact ⟨by first | rfl | simp, rfl⟩
end Go.Proofs.YtbelcgjbhpjnpaaGreat.Sh
