/- shadow by its contracts: New. -/
import Derived.Test.YtbelcgjbhpjnpaaGreatSh3
namespace Go.Proofs.YtbelcgjbhpjnpaaGreat.Sh
open Go.RowKit Pk Dk Pg
attribute [local go_sem ↓] Go.wp_at_zero Go.wp_at_succ exec_app
theorem info_int2 : (Tryz.prog.info? 3).map (fun i => (i.zero, i.size, i.bytes)) = some (some (.int .i64 0), 1, 8) := by kernel_rfl
def putT (t : List Int) (l : Nat) (u : Int) : List Int := if l = t.length then t ++ [u] else t.set l u
def C.newF (c : C) (n : Nat) (p : List UInt8) : C × Int × Int :=
  if c.broken = true then (c, 0, 13)
  else if 232 < p.length then (c, 0, 4)
  else if 512 ≤ slotF c.table then (c, 0, 11)
  else if (c.freshF n p).2.2 ≠ 0 then ((c.freshF n p).1, 0, (c.freshF n p).2.2)
  else ({ (c.freshF n p).1 with table := putT c.table (slotF c.table) (c.freshF n p).2.1 }, slotF c.table, 0)
theorem freshF_table (c : C) (n : Nat) (p : List UInt8) : (c.freshF n p).1.table = c.table ∧ (c.freshF n p).1.old = c.old ∧ (c.freshF n p).1.parts = c.parts ∧ (c.freshF n p).1.ep = c.ep ∧ (c.freshF n p).1.slot = c.slot ∧ (c.freshF n p).1.broken = c.broken := by
  unfold C.freshF
  split
  · exact ⟨rfl, rfl, rfl, rfl, rfl, rfl⟩
  · split <;> exact ⟨rfl, rfl, rfl, rfl, rfl, rfl⟩
/-- a call behind which a store lies there anew -/
def Post (w w' : World) (x : X) (n : Nat) (c' : C) : Prop := ∃ x', x'.b = x.b ∧ x'.L = x.L ∧ At w' x' n c' ∧ Only x.fp w w' ∧ ∀ g ∈ x'.fp, g ∈ x.fp ∨ w.heap.size ≤ g
theorem Post.self {w w' : World} {x : X} {n : Nat} {c' : C} (h : At w' x n c') (ho : Only x.fp w w') : Post w w' x n c' := ⟨x, rfl, rfl, h, ho, fun _ hg => .inl hg⟩
set_option maxRecDepth 100000 in
set_option maxHeartbeats 4000000 in
theorem new_any {w : World} {x : X} {n : Nat} {c : C} (h : At w x n c) (s : ByteArray) (hs : s.size ≤ 9223372036854775807) (hep : 0 ≤ c.ep ∧ c.ep ≤ 1099511627776) (hc : c.d.calls ≤ 999999990) (hr : c.d.armed ≤ 9223372036854775807) :
    Calls Tryz.prog 28 #[sp x.b, .string s] w fun e w' => e = .returned (.tuple #[.int .i64 (c.newF n s.data.toList).2.1, .int .i64 (c.newF n s.data.toList).2.2]) ∧ Post w w' x n (c.newF n s.data.toList).1 := by
  have KW := works_any h
  have hl : s.data.toList.length = s.size := by simp
  obtain ⟨R, hR⟩ : ∃ R, c.newF n s.data.toList = R := ⟨_, rfl⟩
  rw [hR]
  unfold C.newF at hR
  rw [hl] at hR
  have HH := Lib.hid h
  by_cases h1 : c.broken = true
  · rw [if_pos h1] at hR
    subst hR
    rw [show c.worksF = 13 from by unfold C.worksF; rw [if_pos h1]] at KW
    have KW := Lib.hid KW
    clear h h1
    unfold sp at *
    go_enter Tryz.func28, Tryz.ntmps28
    go_wp2_with fail
    refine KW.out.mono ?_
    rintro e w1 ⟨rfl, rfl⟩
    go_wp2_with fail
    go_ret2
    exact ⟨by first | rfl | simp, .self HH.out (Only.refl _ _)⟩
  rw [if_neg h1] at hR
  rw [show c.worksF = 0 from by unfold C.worksF; rw [if_neg h1]] at KW
  have KW := Lib.hid KW
  have KI := index_sl h.ht (by have := h.tl; omega) (-1)
  rw [indexF_slot] at KI
  have hsl := slotF_le c.table
  have f2 := h.f2
  have tl := h.tl
  obtain ⟨TA, tc, htv, htc⟩ := h.ht.val
  obtain ⟨l, hl2⟩ : ∃ l, slotF c.table = l := ⟨_, rfl⟩
  rw [hl2] at KI hR hsl
  by_cases h2 : 232 < s.size
  · rw [if_pos h2] at hR
    subst hR
    have h2I : (232 : Int) < (s.size : Int) := by omega
    by_cases h3 : l < c.table.length
    · rw [if_pos h3] at KI
      have KI := Lib.hid KI
      have h3I : ¬ (l : Int) < 0 := by omega
      clear h h1 h2 htv
      unfold sp at *
      go_enter Tryz.func28, Tryz.ntmps28
      go_wp2_with fail
      refine KW.out.mono ?_
      rintro e w1 ⟨rfl, rfl⟩
      go_wp2_with fail
      refine KI.out.mono ?_
      rintro e w1 ⟨rfl, rfl⟩
      go_wp2_with fail
      go_ret2
      exact ⟨by first | rfl | simp, .self HH.out (Only.refl _ _)⟩
    · rw [if_neg h3] at KI
      have KI := Lib.hid KI
      clear h h1 h2
      rw [htv] at f2 KI
      unfold sp at *
      go_enter Tryz.func28, Tryz.ntmps28
      go_wp2_with fail
      refine KW.out.mono ?_
      rintro e w1 ⟨rfl, rfl⟩
      go_wp2_with fail
      refine KI.out.mono ?_
      rintro e w1 ⟨rfl, rfl⟩
      go_wp2_with fail
      go_ret2
      exact ⟨by first | rfl | simp, .self HH.out (Only.refl _ _)⟩
  rw [if_neg h2] at hR
  have h2I : ¬ (232 : Int) < (s.size : Int) := by omega
  by_cases h4 : 512 ≤ l
  · rw [if_pos h4] at hR
    subst hR
    have h3 : ¬ l < c.table.length := by omega
    have h4I : (512 : Int) ≤ (c.table.length : Int) := by omega
    rw [if_neg h3] at KI
    have KI := Lib.hid KI
    clear h h1 h2
    rw [htv] at f2 KI
    unfold sp at *
    go_enter Tryz.func28, Tryz.ntmps28
    go_wp2_with fail
    refine KW.out.mono ?_
    rintro e w1 ⟨rfl, rfl⟩
    go_wp2_with fail
    refine KI.out.mono ?_
    rintro e w1 ⟨rfl, rfl⟩
    go_wp2_with fail
    go_ret2
    exact ⟨by first | rfl | simp, .self HH.out (Only.refl _ _)⟩
  rw [if_neg h4] at hR
  have KF := fresh_any h s hep hc hr
  have hft := freshF_table c n s.data.toList
  generalize hF : c.freshF n s.data.toList = F at *
  obtain ⟨c1, id, er⟩ := F
  dsimp only at KF hft hR
  have KF := Lib.hid KF
  by_cases h5 : er = 0
  · rw [if_neg (by simpa using h5)] at hR
    subst h5
    have h4I : ¬ (512 : Int) ≤ (l : Int) := by omega
    by_cases h3 : l < c.table.length
    · rw [if_pos h3] at KI
      have KI := Lib.hid KI
      have h3I : ¬ (l : Int) < 0 := by omega
      have h3J : ((l : Int) == (c.table.length : Int)) = false := by rw [beq_eq_false_iff_ne]; omega
      have hput : putT c.table l id = c.table.set l id := by unfold putT; rw [if_neg (by omega)]
      rw [hput] at hR
      subst hR
      have HFT := Lib.hid hft
      clear h h1 h2 hF hput hft htv
      unfold sp at *
      go_enter Tryz.func28, Tryz.ntmps28
      go_wp2_with fail
      refine KW.out.mono ?_
      rintro e w1 ⟨rfl, rfl⟩
      go_wp2_with fail
      refine KI.out.mono ?_
      rintro e w1 ⟨rfl, rfl⟩
      go_wp2_with fail
      refine KF.out.mono ?_
      rintro e w1 ⟨rfl, aa, ow⟩
      have f2' := aa.f2
      obtain ⟨g, cp, hv, ck, z, A2, o2⟩ := aa.setT l (by rw [HFT.out.1]; exact h3) id
      rw [hv, HFT.out.1] at f2'
      have AX := Lib.hid (show At (w1.setCell ⟨g, l, none⟩ (.int .i64 id)) x n { c1 with table := c.table.set l id } from by rw [← HFT.out.1]; exact A2)
      have OX := Lib.hid (ow.trans o2)
      generalize c1.table.getD l 0 = ov at ck
      clear aa ow A2 o2 hv
      clear f2
      generalize c.table.length = tn at *
      go_wp2_with fail
      go_ret2
      exact ⟨by first | rfl | simp, .self AX.out OX.out⟩
    · obtain rfl : l = c.table.length := by omega
      rw [if_neg h3] at KI
      have hput : putT c.table c.table.length id = c.table ++ [id] := by unfold putT; rw [if_pos rfl]
      rw [hput] at hR
      subst hR
      have HFT := Lib.hid hft
      have HTV := Lib.hid htv
      rw [htv] at f2 KI
      have KI := Lib.hid KI
      clear h h1 h2 hF hput hft htv hl2 hsl h3 h4
      generalize htn : c.table.length = tn at *
      have HTN := Lib.hid htn
      clear htn
      unfold sp at *
      go_enter Tryz.func28, Tryz.ntmps28
      go_wp2_with fail
      refine KW.out.mono ?_
      rintro e w1 ⟨rfl, rfl⟩
      go_wp2_with fail
      refine KI.out.mono ?_
      rintro e w1 ⟨rfl, rfl⟩
      go_wp2_with fail
      refine KF.out.mono ?_
      rintro e w1 ⟨rfl, aa, ow⟩
      have f2' := aa.f2
      have St := aa.ht
      rw [HFT.out.1, HTN.out] at St
      obtain ⟨v', w2, ea, S2, ow2, fr2⟩ := append_sl1 (P := Tryz.prog) St 52 52 (.int .i64 0) 8 Tryz.underlying52 info_int2 rfl (.int .i64 id) rfl (by unfold maxLen; omega) (by omega)
      rw [show nvs' c.table ++ [Value.int .i64 id] = nvs' (c.table ++ [id]) from by rw [nvs'_append]; rfl] at S2
      obtain ⟨gg, vc2, rr, rfl, BB, _, _⟩ := S2.form (by omega)
      have w2c : w2.cell? ⟨gg, tn, none⟩ = some (.int .i64 id) := BB.cell_some (by rw [← HTN.out, List.getElem?_toArray, List.getElem?_append_left (by simp), nvs'_append, List.getElem?_append_right (by simp)]; simp [nvs'])
      have w2z : w2.frozen? ⟨gg, tn, none⟩ = false := BB.frozen _ (by have := HTN.out; simp; omega)
      have hlt1 : ((tn : Nat) : Int) < ((tn + 1 : Nat) : Int) := by omega
      have hlt2 : tn < tn + 1 := by omega
      have hadd := aa.addT id (by rw [HFT.out.1, HTN.out]; exact S2) ow2 fr2 (by rw [HFT.out.1, HTN.out]; omega)
      obtain ⟨g2, z2, A3, o3, fr3⟩ := hadd
      rw [HFT.out.1] at A3
      obtain ⟨g, cp, hv, ck, z, A4, o4⟩ := A3.setT tn (by show _ < (c.table ++ [id]).length; have := HTN.out; simp; omega) id
      have hset : (c.table ++ [id]).set tn id = c.table ++ [id] := by
        rw [← HTN.out, List.set_append_right _ _ (Nat.le_refl _), Nat.sub_self]; rfl
      have A4 : At ((w2.setCell ⟨x.b, 2, none⟩ (.slice (some ⟨gg, 0, none⟩) (tn + 1) vc2)).setCell ⟨g, tn, none⟩ (.int .i64 id)) { x with tv := .slice (some ⟨gg, 0, none⟩) (tn + 1) vc2 } n { c1 with table := c.table ++ [id] } := by
        have := A4
        dsimp only at this
        rw [hset] at this
        exact this
      dsimp only at hv
      injection hv with hv1 hv2 hv3
      injection hv1 with hv1
      injection hv1 with hv1
      clear hv2
      subst hv1 hv3
      have hne : x.b ≠ gg := BB.ne_ (aa.hb.only ow2 (aa.ints_ne aa.ht).1) (by decide) |>.symm
      have hne2 : gg ≠ x.b := hne.symm
      have f2'' : (w2.setCell ⟨x.b, 2, none⟩ (.slice (some ⟨gg, 0, none⟩) (tn + 1) vc2)).cell? ⟨x.b, 2, none⟩ = some (.slice (some ⟨gg, 0, none⟩) (tn + 1) vc2) := A3.f2
      rw [HTV.out] at f2' g2 ea
      have EA := Lib.hid ea
      have AX := Lib.hid A4
      have OX := Lib.hid ((ow.trans o3).trans_of o4 (fun g hg hlt => (fr3 g hg).elim (fun h => h) (fun h => by have := ow.size; omega)))
      have FX := Lib.hid (show ∀ g' ∈ ({ x with tv := .slice (some ⟨gg, 0, none⟩) (tn + 1) vc2 } : X).fp, g' ∈ x.fp ∨ w.heap.size ≤ g' from fun g' hg => (fr3 g' hg).imp (fun h => h) (fun h => Nat.le_trans ow.size h))
      generalize (c.table ++ [id]).getD tn 0 = ov at ck
      clear aa ow A3 A4 o3 o4 ow2 fr2 St S2 ea hset fr3 BB
      go_wp2_with fail
      rw [EA.out]
      go_wp2_with fail
      go_ret2
      exact ⟨by first | rfl | simp, { x with tv := .slice (some ⟨gg, 0, none⟩) (tn + 1) vc2 }, rfl, rfl, AX.out, OX.out, FX.out⟩
  · rw [if_pos h5] at hR
    subst hR
    have hq : (er != 0) = true := by rw [bne_iff_ne]; exact h5
    have h4I : ¬ (512 : Int) ≤ (l : Int) := by omega
    by_cases h3 : l < c.table.length
    · rw [if_pos h3] at KI
      have KI := Lib.hid KI
      have h3I : ¬ (l : Int) < 0 := by omega
      clear h h1 h2 hF htv
      unfold sp at *
      go_enter Tryz.func28, Tryz.ntmps28
      go_wp2_with fail
      refine KW.out.mono ?_
      rintro e w1 ⟨rfl, rfl⟩
      go_wp2_with fail
      refine KI.out.mono ?_
      rintro e w1 ⟨rfl, rfl⟩
      go_wp2_with fail
      refine KF.out.mono ?_
      rintro e w1 ⟨rfl, aa, ow⟩
      have AX := Lib.hid aa
      have OX := Lib.hid ow
      clear aa ow
      go_wp2_with fail
      go_ret2
      exact ⟨by first | rfl | simp, .self AX.out OX.out⟩
    · rw [if_neg h3] at KI
      have hlI : ¬ (512 : Int) ≤ (c.table.length : Int) := by omega
      have KI := Lib.hid KI
      clear h h1 h2 hF
      rw [htv] at f2 KI
      unfold sp at *
      go_enter Tryz.func28, Tryz.ntmps28
      go_wp2_with fail
      refine KW.out.mono ?_
      rintro e w1 ⟨rfl, rfl⟩
      go_wp2_with fail
      refine KI.out.mono ?_
      rintro e w1 ⟨rfl, rfl⟩
      go_wp2_with fail
      refine KF.out.mono ?_
      rintro e w1 ⟨rfl, aa, ow⟩
      have AX := Lib.hid aa
      have OX := Lib.hid ow
      clear aa ow
      go_wp2_with fail
      go_ret2
      exact ⟨by first | rfl | simp, .self AX.out OX.out⟩
end Go.Proofs.YtbelcgjbhpjnpaaGreat.Sh
