/- the document's store by its contracts: the object; at, there, Fresh, Kept, Free. -/
import Derived.Test.YtbelcgjbhpjnpaaGreatMa
set_option linter.all false
set_option linter.unusedVariables false
set_option linter.unusedSimpArgs false
set_option maxRecDepth 100000
namespace Go.Proofs.YtbelcgjbhpjnpaaGreat.Sh
open Go.RowKit Pk Dk Pg
attribute [local go_sem ↓] Go.wp_at_zero Go.wp_at_succ
abbrev Sl14 := Option (Bool × List UInt8)
def slc1 : Sl14 → List Value
 | none => [.bool false, .bool false, .string ⟨#[]⟩]
 | some (f, b) => [.bool true, .bool f, .string ⟨b.toArray⟩]
def slcs (l : List Sl14) : List Value := l.flatMap slc1
theorem slc1_length (o : Sl14) : (slc1 o).length = 3 := by cases o <;> rfl
theorem slcs_cons (o : Sl14) (l : List Sl14) : slcs (o :: l) = slc1 o ++ slcs l := rfl
theorem slcs_length (l : List Sl14) : (slcs l).length = l.length * 3 := by
 induction l with
 | nil => rfl
 | cons o l ih => rw [slcs_cons, List.length_append, ih, slc1_length, List.length_cons]; omega
theorem slcs_append (l m : List Sl14) : slcs (l ++ m) = slcs l ++ slcs m := by simp [slcs]
theorem slcs_get (l : List Sl14) (k i : Nat) (hi : i < 3) (o : Sl14) (hf : l[k]? = some o) : (slcs l)[k * 3 + i]? = (slc1 o)[i]? := by
 induction l generalizing k with
 | nil => simp at hf
 | cons a l ih =>
  have e3 := slc1_length a
  rw [slcs_cons]
  cases k with
  | zero =>
   simp at hf
   subst hf
   rw [Nat.zero_mul, Nat.zero_add, List.getElem?_append_left (by omega)]
  | succ k =>
   simp at hf
   rw [List.getElem?_append_right (by omega), e3, show (k + 1) * 3 + i - 3 = k * 3 + i from by omega]
   exact ih k hf
def bS : Sl14 → ByteArray
 | none => ⟨#[]⟩
 | some (_, b) => ⟨b.toArray⟩
theorem slc1_eq (o : Sl14) : slc1 o = [.bool o.isSome, .bool (isFresh o), .string (bS o)] := by cases o <;> rfl
/-- a row of slots -/
def SlAt (w : World) (v : Value) (l : List Sl14) : Prop := Slc w 91 3 v l.length (slcs l)
theorem SlAt.get {w : World} {v : Value} {l : List Sl14} (h : SlAt w v l) (k : Nat) (o : Sl14) (ho : l[k]? = some o) :
  ∃ g cp, v = .slice (some ⟨g, 0, none⟩) l.length cp ∧ w.cell? ⟨g, k * 3, none⟩ = some (.bool o.isSome) ∧ w.cell? ⟨g, k * 3 + 1, none⟩ = some (.bool (isFresh o)) ∧ w.cell? ⟨g, k * 3 + 2, none⟩ = some (.string (bS o)) := by
 have hk : k < l.length := (List.getElem?_eq_some_iff.1 ho).1
 obtain ⟨g, cp, rest, rfl, B, _, _⟩ := Slc.form h (by omega) (by omega)
 have hl := slcs_length l
 have c : ∀ i u, i < 3 → (slc1 o)[i]? = some u → w.cell? ⟨g, k * 3 + i, none⟩ = some u := fun i u hi hu =>
  B.cell_some (by rw [List.getElem?_toArray, List.getElem?_append_left (by omega), slcs_get l k i hi o ho, hu])
 rw [slc1_eq] at c
 exact ⟨g, cp, rfl, c 0 _ (by omega) rfl, c 1 _ (by omega) rfl, c 2 _ (by omega) rfl⟩
theorem SlAt.val {w : World} {v : Value} {l : List Sl14} (h : SlAt w v l) : ∃ A c, v = .slice A l.length c := by
 obtain ⟨A, c, e⟩ := slc_val h
 exact ⟨A, c, e⟩
theorem SlAt.only {S : List Nat} {w w' : World} {v : Value} {l : List Sl14} (h : SlAt w v l) (o : Only S w w') (hd : ∀ g ∈ ownB v, g ∉ S) : SlAt w' v l := Slc.only h o hd
theorem SlAt.below {w w' : World} {v : Value} {l : List Sl14} (h : SlAt w v l) (b : Below w.heap.size w w') : SlAt w' v l := Slc.below h b
def oldS (l : List (Option (List UInt8))) : List Sl14 := l.map fun o => o.map fun b => (false, b)
@[simp] theorem oldS_length (l : List (Option (List UInt8))) : (oldS l).length = l.length := by simp [oldS]
/-- the document's store in memory -/
structure RAt (w : World) (b : Nat) (nv ov : Value) (a : St) : Prop where
 hb : Blk w b 47 #[.int .i64 (a.many : Nat), nv, ov, .int .i64 a.ep, .bool false]
 hn : SlAt w nv a.now
 ho : SlAt w ov (oldS a.old)
 ln : a.now.length ≤ 512
 lo : a.old.length ≤ 512
 lm : a.many ≤ 1024
 le : 0 ≤ a.ep ∧ a.ep ≤ 3000000000000
def rp (b : Nat) : Value := .pointer (some ⟨b, 0, none⟩)
section
variable {w w' : World} {b : Nat} {nv ov : Value} {a : St} {S : List Nat}
theorem RAt.only (h : RAt w b nv ov a) (o : Only S w w') (hd : ∀ g ∈ b :: (ownB nv ++ ownB ov), g ∉ S) : RAt w' b nv ov a :=
 ⟨h.hb.only o (hd b (by simp)), h.hn.only o (fun g hg => hd g (by simp [hg])), h.ho.only o (fun g hg => hd g (by simp [hg])), h.ln, h.lo, h.lm, h.le⟩
theorem RAt.below (h : RAt w b nv ov a) (hb : Below w.heap.size w w') : RAt w' b nv ov a := h.only (S := []) (.of_below hb) (by simp)
theorem RAt.lt (h : RAt w b nv ov a) : ∀ g ∈ b :: (ownB nv ++ ownB ov), g < w.heap.size := by
 intro g hg
 rcases List.mem_cons.1 hg with rfl | hg
 ·exact h.hb.lt
 ·exact (List.mem_append.1 hg).elim (h.hn.lt g) (h.ho.lt g)
theorem RAt.f0 (h : RAt w b nv ov a) : w.cell? ⟨b, 0, none⟩ = some (.int .i64 (a.many : Nat)) := h.hb.cell_some rfl
theorem RAt.f1 (h : RAt w b nv ov a) : w.cell? ⟨b, 1, none⟩ = some nv := h.hb.cell_some rfl
theorem RAt.f2 (h : RAt w b nv ov a) : w.cell? ⟨b, 2, none⟩ = some ov := h.hb.cell_some rfl
theorem RAt.f3 (h : RAt w b nv ov a) : w.cell? ⟨b, 3, none⟩ = some (.int .i64 a.ep) := h.hb.cell_some rfl
end
set_option maxRecDepth 100000 in
set_option maxHeartbeats 1000000 in
theorem rat_any {w : World} {b : Nat} {nv ov : Value} {a : St} (h : RAt w b nv ov a) (l : Int) :
  Calls Tryz.prog 139 #[rp b, .int .i64 l] w fun e w' => e = .returned (.bool (a.at l).isSome) ∧ w = w' := by
 have f1 := h.f1
 obtain ⟨A, c, hv⟩ := h.hn.val
 obtain ⟨R, hR⟩ : ∃ R, (a.at l).isSome = R := ⟨_, rfl⟩
 rw [hR]
 unfold St.at at hR
 have ln := h.ln
 unfold rp
 by_cases h0 : 0 ≤ l
 ·rw [if_pos h0] at hR
  obtain ⟨k, rfl⟩ := Int.eq_ofNat_of_zero_le h0
  rw [show ((k : Nat) : Int).toNat = k by omega] at hR
  by_cases h1 : k < a.now.length
  ·obtain ⟨o, ho⟩ : ∃ o, a.now[k]? = some o := ⟨_, List.getElem?_eq_getElem h1⟩
   obtain ⟨g, cp, hv2, c0, _, _⟩ := h.hn.get k o ho
   rw [ho] at hR
   simp only [Option.getD_some] at hR
   rw [hR] at c0
   rw [hv2] at f1
   have hI : (k : Int) < (a.now.length : Int) := by omega
   generalize a.now.length = n at *
   clear h hv hv2 ho hR
   go_enter Tryz.func139, Tryz.ntmps139
   go_wp2_with fail
   go_ret
   exact ⟨by first | rfl | simp, rfl⟩
  ·rw [List.getElem?_eq_none (by omega)] at hR
   simp at hR
   subst hR
   rw [hv] at f1
   have hI : ¬ (k : Int) < (a.now.length : Int) := by omega
   have hI2 : (a.now.length : Int) ≤ (k : Int) := by omega
   generalize a.now.length = n at *
   clear h hv
   go_enter Tryz.func139, Tryz.ntmps139
   go_wp2_with fail
   go_ret
   exact ⟨by first | rfl | simp, rfl⟩
 ·rw [if_neg h0] at hR
  simp at hR
  subst hR
  clear h hv f1
  go_enter Tryz.func139, Tryz.ntmps139
  go_wp2_with fail
  go_ret
  exact ⟨by first | rfl | simp, rfl⟩
theorem countP_step {α : Type} (f : α → Bool) (l : List α) (k : Nat) (o : α) (h : l[k]? = some o) : (l.take (k + 1)).countP f = (l.take k).countP f + if f o then 1 else 0 := by
 have hk : k < l.length := (List.getElem?_eq_some_iff.1 h).1
 have e : l[k] = o := (List.getElem?_eq_some_iff.1 h).2
 rw [List.take_succ_eq_append_getElem hk, List.countP_append, e]
 simp [List.countP_cons]
theorem countP_le_take {α : Type} (f : α → Bool) (l : List α) (k : Nat) : (l.take k).countP f ≤ k := by
 have := List.countP_le_length (p := f) (l := l.take k)
 rw [List.length_take] at this
 omega
set_option maxRecDepth 100000 in
set_option maxHeartbeats 1000000 in
theorem rthere_any {w : World} {v : Value} {l : List Sl14} (h : SlAt w v l) (hl : l.length ≤ 1000) :
  Calls Tryz.prog 143 #[v] w fun e w' => e = .returned (.int .i64 (l.countP Option.isSome : Nat)) ∧ w = w' := by
 obtain ⟨A, c, rfl⟩ := h.val
 have HC := Lib.hid (fun k o ho => h.get k o ho)
 obtain ⟨n, hn⟩ : ∃ n, l.length = n := ⟨_, rfl⟩
 rw [hn] at hl HC ⊢
 have HN := Lib.hid hn
 clear h hn
 go_enter Tryz.func143, Tryz.ntmps143
 go_wp2_with fail
 go_loop [3, 4] (fun nv iv => ∃ k : Nat, k ≤ n ∧ iv = .int .i64 k ∧ nv = .int .i64 ((l.take k).countP Option.isSome : Nat)) (fun _ iv => n - (intOf iv).toNat)
 case atStart => exact ⟨0, by omega, rfl, rfl⟩
 case round =>
  obtain ⟨k, hk, rfl, rfl⟩ := hrel
  have hle := countP_le_take Option.isSome l k
  by_cases h1 : k < n
  ·obtain ⟨o, ho⟩ : ∃ o, l[k]? = some o := ⟨_, List.getElem?_eq_getElem (by have := HN.out; omega)⟩
   obtain ⟨g, cp, hv2, c0, _, _⟩ := HC.out k o ho
   injection hv2 with e1 e2 e3
   subst e1 e3
   have hs := Lib.hid (countP_step Option.isSome l k o ho)
   have hI : (k : Int) < (n : Int) := by omega
   generalize (l.take k).countP Option.isSome = t at *
   clear ho
   cases hb : o.isSome
   all_goals
    rw [hb] at c0 hs
    go_wp2_with fail
    go_round
    case rel => exact ⟨k + 1, by omega, by go_num, by rw [hs.out]; simp⟩
    case measure => simp [intOf]; omega
  ·obtain rfl : k = n := by omega
   have hh : (l.take k).countP Option.isSome = l.countP Option.isSome := by rw [← HN.out, List.take_length]
   rw [hh]
   go_wp2_with fail
   go_ret
   exact ⟨by first | rfl | simp, rfl⟩
set_option maxRecDepth 100000 in
set_option maxHeartbeats 1000000 in
theorem rfresh_any {w : World} {b : Nat} {nv ov : Value} {a : St} (h : RAt w b nv ov a) :
  Calls Tryz.prog 74 #[rp b] w fun e w' => e = .returned (.int .i64 (a.fresh : Nat)) ∧ w = w' := by
 have f1 := h.f1
 have ln := h.ln
 obtain ⟨A, c, hv⟩ := h.hn.val
 have HC := Lib.hid (fun k o ho => h.hn.get k o ho)
 rw [hv] at f1 HC
 unfold St.fresh rp
 generalize a.now = l at *
 obtain ⟨n, hn⟩ : ∃ n, l.length = n := ⟨_, rfl⟩
 rw [hn] at ln HC f1
 have HN := Lib.hid hn
 clear h hn hv
 go_enter Tryz.func74, Tryz.ntmps74
 go_wp2_with fail
 go_loop [3, 4] (fun nv iv => ∃ k : Nat, k ≤ n ∧ iv = .int .i64 k ∧ nv = .int .i64 ((l.take k).countP isFresh : Nat)) (fun _ iv => n - (intOf iv).toNat)
 case atStart => exact ⟨0, by omega, rfl, rfl⟩
 case round =>
  obtain ⟨k, hk, rfl, rfl⟩ := hrel
  have hle := countP_le_take isFresh l k
  by_cases h1 : k < n
  ·obtain ⟨o, ho⟩ : ∃ o, l[k]? = some o := ⟨_, List.getElem?_eq_getElem (by have := HN.out; omega)⟩
   obtain ⟨g, cp, hv2, c0, c1, _⟩ := HC.out k o ho
   injection hv2 with e1 e2 e3
   subst e1 e3
   have hs := Lib.hid (countP_step isFresh l k o ho)
   have hI : (k : Int) < (n : Int) := by omega
   generalize (l.take k).countP isFresh = t at *
   clear ho
   have hcs : (o.isSome = false ∧ isFresh o = false) ∨ (o.isSome = true ∧ isFresh o = false) ∨ (o.isSome = true ∧ isFresh o = true) := by
    cases o with
    | none => exact .inl ⟨rfl, rfl⟩
    | some x =>
     obtain ⟨f, y⟩ := x
     cases f
     ·exact .inr (.inl ⟨rfl, rfl⟩)
     ·exact .inr (.inr ⟨rfl, rfl⟩)
   rcases hcs with ⟨hb, hf⟩ | ⟨hb, hf⟩ | ⟨hb, hf⟩
   all_goals
    rw [hb] at c0
    rw [hf] at c1 hs
    go_wp2_with fail
    go_round
    case rel => exact ⟨k + 1, by omega, by go_num, by rw [hs.out]; simp⟩
    case measure => simp [intOf]; omega
  ·obtain rfl : k = n := by omega
   have hh : (l.take k).countP isFresh = l.countP isFresh := by rw [← HN.out, List.take_length]
   rw [hh]
   go_wp2_with fail
   go_ret
   exact ⟨by first | rfl | simp, rfl⟩
end Go.Proofs.YtbelcgjbhpjnpaaGreat.Sh

/- the document's store by its contracts: Need, Kept, Free, set. -/
namespace Go.Proofs.YtbelcgjbhpjnpaaGreat.Sh
open Go.RowKit Pk Dk Pg
attribute [local go_sem ↓] Go.wp_at_zero Go.wp_at_succ
set_option maxRecDepth 100000 in
set_option maxHeartbeats 1000000 in
theorem rneed_any13 (k : Nat) (h : k ≤ 100000) (w : World) :
  Calls Tryz.prog 141 #[.int .i64 (k : Nat)] w fun e w' => e = .returned (.int .i64 (needT k : Nat)) ∧ w = w' := by
 unfold needT
 rcases Nat.eq_zero_or_pos k with rfl | h0
 ·go_enter Tryz.func141, Tryz.ntmps141
  go_wp2_with fail
  go_ret
  exact ⟨by first | rfl | simp, rfl⟩
 ·have h1 : ¬ (k : Int) < 1 := by omega
  have e1 : IntKind.i64.wrap ((k : Int) - 1) = (k : Int) - 1 := IntWalk.i64_in _ (by omega)
  have e2 : IntKind.i64.wrap (((k : Int) - 1).tdiv 116) = ((k : Int) - 1) / 116 := by rw [Int.tdiv_eq_ediv_of_nonneg (by omega)]; exact IntWalk.i64_in _ (by omega)
  have e3 : IntKind.i64.wrap (((k : Int) - 1) / 116 + 1) = (((k + 115) / 116 : Nat) : Int) := by rw [show ((k : Int) - 1) / 116 + 1 = (((k + 115) / 116 : Nat) : Int) by omega]; exact IntWalk.i64_in _ (by omega)
  go_enter Tryz.func141, Tryz.ntmps141
  go_wp2_with fail
  go_ret
  exact ⟨by first | rfl | simp, rfl⟩
theorem needT_le (k : Nat) : needT k ≤ k := by unfold needT; omega
set_option maxRecDepth 100000 in
set_option maxHeartbeats 1000000 in
theorem rkept_any {w : World} {b : Nat} {nv ov : Value} {a : St} (h : RAt w b nv ov a) :
  Calls Tryz.prog 75 #[rp b] w fun e w' => e = .returned (.int .i64 (a.kept : Nat)) ∧ ∃ m, w' = w.drewN m := by
 have HD := Lib.hid (fun m => h.below (Below_drewN (Below.refl w.heap.size w) m))
 have KT := Lib.hid (fun m => rthere_any (HD.out m).ho (by rw [oldS_length]; have := h.lo; omega))
 have KN := Lib.hid (fun m => rneed_any13 a.old.length (by have := h.lo; omega) (w.drewN m))
 have g2 := h.f2
 obtain ⟨A, c, rfl⟩ := h.ho.val
 have lo := h.lo
 have e0 : (oldS a.old).countP Option.isSome = a.old.countP Option.isSome := by
  unfold oldS
  rw [List.countP_map]
  apply List.countP_congr
  intro x _
  cases x <;> simp
 rw [oldS_length] at g2 KT
 rw [e0] at KT
 have hle : a.old.countP Option.isSome ≤ a.old.length := List.countP_le_length
 have hn := needT_le a.old.length
 unfold St.kept rp
 generalize a.old.countP Option.isSome = t at *
 generalize a.old.length = n at *
 generalize needT n = nn at *
 have e1 : IntKind.i64.wrap ((t : Int) + (nn : Int)) = (t : Int) + (nn : Int) := IntWalk.i64_in _ (by omega)
 clear h HD
 go_enter Tryz.func75, Tryz.ntmps75
 go_wp2_with fail
 go_quiet (first | (go_at_call 143; exact quietS (KT.out _)) | (go_at_call 141; exact quietS (KN.out _)))
 go_wp2_with fail
 go_ret
 exact ⟨by first | rfl | simp, _, rfl⟩
theorem quietN {P : Program} {f : FuncId} {args : Array Value} {w : World} {n : Nat} {v : Value} (h : Calls P f args (w.drewN n) fun e w' => e = .returned v ∧ ∃ m, w' = (w.drewN n).drewN m) : Calls P f args (w.drewN n) fun e w'' => e = .returned v ∧ ∃ m, w'' = w.drewN m := h.mono fun _ _ ⟨he, m, hm⟩ => ⟨he, n + m, by rw [hm, World.drewN_drewN]⟩
set_option maxRecDepth 100000 in
set_option maxHeartbeats 1000000 in
theorem rfree_any {w : World} {b : Nat} {nv ov : Value} {a : St} (h : RAt w b nv ov a) (hk : a.fresh + a.kept ≤ a.many) :
  Calls Tryz.prog 73 #[rp b] w fun e w' => e = .returned (.int .i64 (a.free : Nat)) ∧ ∃ m, w' = w.drewN m := by
 have KK := Lib.hid (fun m => rkept_any (h.below (Below_drewN (Below.refl w.heap.size w) m)))
 have KF := Lib.hid (fun m => rfresh_any (h.below (Below_drewN (Below.refl w.heap.size w) m)))
 have f0 := h.f0
 have lm := h.lm
 have hf : ((a.free : Nat) : Int) = (a.many : Int) - (a.kept : Int) - (a.fresh : Int) := by unfold St.free; omega
 generalize a.free = fr at *
 generalize a.kept = kp at *
 generalize a.fresh = fs at *
 generalize a.many = mn at *
 have e1 : IntKind.i64.wrap ((mn : Int) - (kp : Int)) = (mn : Int) - (kp : Int) := IntWalk.i64_in _ (by omega)
 have e2 : IntKind.i64.wrap ((mn : Int) - (kp : Int) - (fs : Int)) = (fr : Int) := by rw [← hf]; exact IntWalk.i64_in _ (by omega)
 clear h hf
 unfold rp at *
 go_enter Tryz.func73, Tryz.ntmps73
 go_wp2_with fail
 go_quiet (first | (go_at_call 75; exact quietN (KK.out _)) | (go_at_call 74; exact quietS (KF.out _)))
 go_wp2_with fail
 go_ret
 exact ⟨by first | rfl | simp, _, rfl⟩
end Go.Proofs.YtbelcgjbhpjnpaaGreat.Sh

/- the document's store by its contracts: set. -/
namespace Go.Proofs.YtbelcgjbhpjnpaaGreat.Sh
open Go.RowKit Pk Dk Pg
attribute [local go_sem ↓] Go.wp_at_zero Go.wp_at_succ exec_app
def slV (o : Sl14) : Value := .agg #[.bool o.isSome, .bool (isFresh o), .string (bS o)]
theorem info_slot : (Tryz.prog.info? 91).map (fun i => (i.zero, i.size, i.bytes)) = some (some (.agg #[.bool false, .bool false, .string ⟨#[]⟩]), 3, 24) := by kernel_rfl
theorem slcs_one (l : List Sl14) : ∀ u ∈ slcs l, u.oneCell' = true := by
 intro u hu
 obtain ⟨o, _, hu⟩ := List.mem_flatMap.1 hu
 rw [slc1_eq] at hu
 simp at hu
 rcases hu with rfl | rfl | rfl <;> rfl
theorem slcs_set (l : List Sl14) (k : Nat) (o : Sl14) (hk : k < l.length) : (((slcs l).set (k * 3) (.bool o.isSome)).set (k * 3 + 1) (.bool (isFresh o))).set (k * 3 + 2) (.string (bS o)) = slcs (l.set k o) := by
 induction l generalizing k with
 | nil => simp at hk
 | cons a l ih =>
  cases k with
  | zero =>
   rw [slcs_cons, List.set_cons_zero, slcs_cons, slc1_eq, slc1_eq]
   rfl
  | succ k =>
   have := ih k (by simpa using hk)
   rw [slcs_cons, List.set_cons_succ, slcs_cons, ← this, slc1_eq, show (k + 1) * 3 = k * 3 + 3 by omega, show k * 3 + 3 + 1 = (k * 3 + 1) + 3 by omega, show k * 3 + 3 + 2 = (k * 3 + 2) + 3 by omega]
   rfl
/-- a slot stored -/
theorem SlAt.put {w : World} {v : Value} {l : List Sl14} (h : SlAt w v l) (k : Nat) (o : Sl14) (hk : k < l.length) :
  ∃ g cp, v = .slice (some ⟨g, 0, none⟩) l.length cp ∧ ownB v = [g] ∧ w.frozen? ⟨g, k * 3, none⟩ = false ∧ w.frozen? ⟨g, k * 3 + 1, none⟩ = false ∧ w.frozen? ⟨g, k * 3 + 2, none⟩ = false ∧
   SlAt (((w.setCell ⟨g, k * 3, none⟩ (.bool o.isSome)).setCell ⟨g, k * 3 + 1, none⟩ (.bool (isFresh o))).setCell ⟨g, k * 3 + 2, none⟩ (.string (bS o))) v (l.set k o) ∧
   Only [g] w (((w.setCell ⟨g, k * 3, none⟩ (.bool o.isSome)).setCell ⟨g, k * 3 + 1, none⟩ (.bool (isFresh o))).setCell ⟨g, k * 3 + 2, none⟩ (.string (bS o))) := by
 have hl := slcs_length l
 rcases Slc.form h (by omega) (by omega) with ⟨g, cp, rest, rfl, B, hc, hr⟩
 have hm : cp ≤ maxLen := by
  rcases h.2 with ⟨e, _⟩ | ⟨g', cap', rest', e, _, _, hm⟩
  ·cases e
  ·injection e with _ _ e3; omega
 have fz : ∀ i, i < 3 → w.frozen? ⟨g, k * 3 + i, none⟩ = false := fun i hi => B.frozen _ (by simp; omega)
 have B1 := B.set_ (k * 3) (.bool o.isSome)
 rw [List.setIfInBounds_toArray, List.set_append_left _ _ (by omega)] at B1
 have B2 := B1.set_ (k * 3 + 1) (.bool (isFresh o))
 rw [List.setIfInBounds_toArray, List.set_append_left _ _ (by rw [List.length_set]; omega)] at B2
 have B3 := B2.set_ (k * 3 + 2) (.string (bS o))
 rw [List.setIfInBounds_toArray, List.set_append_left _ _ (by rw [List.length_set, List.length_set]; omega), slcs_set l k o hk] at B3
 refine ⟨g, cp, rfl, by simp [ownB], fz 0 (by omega), fz 1 (by omega), fz 2 (by omega), ?_, (((Only.refl _ _).setCell (by simp) _).setCell (by simp) _).setCell (by simp) _⟩
 unfold SlAt
 rw [List.length_set]
 exact ⟨by rw [slcs_length, List.length_set], .inr ⟨g, cp, rest, rfl, B3, by rw [slcs_length, List.length_set]; omega, hm⟩⟩
set_option maxRecDepth 100000 in
set_option maxHeartbeats 2000000 in
theorem rset14_any {w : World} {v : Value} {l : List Sl14} (h : SlAt w v l) (hl : l.length ≤ 512) (i : Nat) (hi : i ≤ l.length) (o : Sl14) :
  Calls Tryz.prog 140 #[v, .int .i64 (i : Nat), slV o] w fun e w' => ∃ v', e = .returned v' ∧ SlAt w' v' (putS l i o) ∧ Below w.heap.size w w' ∧ ∀ g ∈ ownB v', w.heap.size ≤ g := by
 obtain ⟨A, c, rfl⟩ := h.val
 have O0 := belowAlloc (belowAlloc (Below.refl w.heap.size w) (.cells #[.bool o.isSome, .bool (isFresh o), .string (bS o)] 91)) (.cells #[] 91)
 have X0 := (Blk.new w 91 #[.bool o.isSome, .bool (isFresh o), .string (bS o)]).alloc (.cells #[] 91)
 have E0 : Slc ((w.alloc (.cells #[.bool o.isSome, .bool (isFresh o), .string (bS o)] 91)).alloc (.cells #[] 91)) 91 3 (.slice (some ⟨w.heap.size + 1, 0, none⟩) 0 0) 0 [] :=
  ⟨rfl, .inr ⟨w.heap.size + 1, 0, [], rfl, by have := Blk.new (w.alloc (.cells #[.bool o.isSome, .bool (isFresh o), .string (bS o)] 91)) 91 #[]; simpa using this, rfl, by unfold maxLen; omega⟩⟩
 have hz := h.below O0
 obtain ⟨v1, w1, ea, S1, o1, f1⟩ := append_slcs (P := Tryz.prog) E0 hz 43 43 _ 24 Tryz.underlying43 info_slot rfl (by omega) (slcs_one l) (by unfold maxLen; omega) (by omega)
 rw [Nat.zero_add, List.nil_append] at S1
 have H1 := Lib.hid (show SlAt w1 v1 l ∧ Below w.heap.size w w1 ∧ (∀ g ∈ ownB v1, w.heap.size < g) ∧ Blk w1 w.heap.size 91 #[.bool o.isSome, .bool (isFresh o), .string (bS o)] from
  ⟨S1, O0.trans (o1.below_of (by simp; omega) (fun x hx => by simp [ownB] at hx; omega)), fun g hg => (f1 g hg).elim (fun h => by simp [ownB] at h; omega) (fun h => by simp at h; omega), X0.only o1 (by simp [ownB])⟩)
 have EA := Lib.hid ea
 clear ea S1 o1 f1 O0 X0 E0 hz h
 unfold slV
 go_enter Tryz.func140, Tryz.ntmps140
 go_wp2_with fail
 rw [EA.out]
 go_wp2_with fail
 go_loopw [7] (fun ov wr => ∃ m : Nat, (m = 0 ∨ (m = 1 ∧ i = l.length)) ∧ SlAt wr ov (l ++ List.replicate m none) ∧ Hid (Below w.heap.size w wr ∧ (∀ g ∈ ownB ov, w.heap.size < g) ∧ Blk wr w.heap.size 91 #[.bool o.isSome, .bool (isFresh o), .string (bS o)])) (fun ov _ => i + 1 - lenW ov)
 case atStart => exact ⟨0, .inl rfl, by simpa using H1.out.1, Lib.hid H1.out.2⟩
 case round =>
  obtain ⟨m, hm, S, H⟩ := hrel
  obtain ⟨A2, c2, rfl⟩ := S.val
  have hlen : (l ++ List.replicate m (none : Sl14)).length = l.length + m := by simp
  by_cases hlt : i < l.length + m
  ·obtain ⟨g, cp, hv2, ow, z0, z1, z2, S3, o3⟩ := S.put i o (by rw [hlen]; exact hlt)
   rw [hlen] at hv2
   have hput : (l ++ List.replicate m (none : Sl14)).set i o = putS l i o := by
    unfold putS
    rcases hm with rfl | ⟨rfl, rfl⟩
    ·rw [if_neg (by omega)]; simp
    ·rw [if_pos rfl, List.set_append_right _ _ (Nat.le_refl _)]; simp
   rw [hput] at S3
   rw [hlen] at S3 S ow
   obtain ⟨o', ho'⟩ : ∃ o', (l ++ List.replicate m (none : Sl14))[i]? = some o' := ⟨_, List.getElem?_eq_getElem (by rw [hlen]; exact hlt)⟩
   obtain ⟨g', cp', hv3, c0, c1, c2'⟩ := S.get i o' ho'
   injection hv2 with e1 e2 e3
   subst e1 e3
   injection hv3 with e1 e5 e6
   injection e1 with e1
   injection e1 with e1 e7 e8
   subst e1
   clear e2 e5 e6 e7 e8
   have hne : g ≠ w.heap.size := fun e => by have := H.out.2.1 g (by simp [ownB]); omega
   have x0 := H.out.2.2.cell_some (i := 0) rfl
   have x1 := H.out.2.2.cell_some (i := 1) rfl
   have x2 := H.out.2.2.cell_some (i := 2) rfl
   have H3 := Lib.hid (show SlAt _ _ _ ∧ Below w.heap.size w _ ∧ ∀ g' ∈ ownB (.slice (some ⟨g, 0, none⟩) (l.length + m) c2), w.heap.size ≤ g' from ⟨S3, H.out.1.trans (o3.below_of H.out.1.size (fun x hx => by simp at hx; subst hx; have := H.out.2.1 x (by simp [ownB]); omega)), fun g' hg => by have := H.out.2.1 g' hg; omega⟩)
   have hI : (i : Int) < ((l.length + m : Nat) : Int) := by omega
   have hI2 : ¬ ((l.length + m : Nat) : Int) ≤ (i : Int) := by omega
   have hlm : l.length + m ≤ 600 := by omega
   clear S3 o3 S hput hm ho'
   rw [hlen]
   generalize l.length + m = n at *
   go_wp2_with fail
   go_ret
   exact ⟨_, by first | rfl | simp, H3.out⟩
  ·have hm0 : m = 0 := by omega
   subst hm0
   have hil := Lib.hid (show i = l.length by omega)
   rw [Nat.add_zero] at hlen hlt
   obtain ⟨v3, w3, eb, S3, o3, f3⟩ := append_slcs (P := Tryz.prog) (show Slc (wr.alloc (.cells #[.bool false, .bool false, .string ⟨#[]⟩] 91)) 91 3 (.slice A2 (l ++ List.replicate 0 none).length c2) (l ++ List.replicate 0 none).length (slcs (l ++ List.replicate 0 none)) from Slc.alloc S _)
    (show Slc (wr.alloc (.cells #[.bool false, .bool false, .string ⟨#[]⟩] 91)) 91 3 (.slice (some ⟨wr.heap.size, 0, none⟩) 1 1) 1 (slcs [none]) from ⟨rfl, .inr ⟨wr.heap.size, 1, [], rfl, Blk.new wr _ _, rfl, by unfold maxLen; omega⟩⟩)
    43 43 _ 24 Tryz.underlying43 info_slot rfl (by omega) (slcs_one _) (by rw [hlen]; unfold maxLen; omega) (by rw [hlen]; omega)
   rw [← slcs_append] at S3
   obtain ⟨A3, c3, rfl⟩ := slc_val S3
   have H3 := Lib.hid (show SlAt w3 (.slice A3 (l.length + 1) c3) (l ++ List.replicate 1 none) ∧ Below w.heap.size w w3 ∧ (∀ g ∈ ownB (.slice A3 (l.length + 1) c3), w.heap.size < g) ∧ Blk w3 w.heap.size 91 #[.bool o.isSome, .bool (isFresh o), .string (bS o)] from by
    rw [hlen] at S3 f3 o3
    obtain ⟨h1, h2, h3⟩ := H.out
    rw [hlen] at h2
    refine ⟨?_, (h1.trans ((belowAlloc (Below.refl wr.heap.size wr) _).mono h1.size)).trans (o3.below_of (by have := h1.size; simp; omega) (fun x hx => by have := h2 x hx; omega)), fun g hg => (f3 g hg).elim (h2 g) (fun h => by have := h1.size; simp at h; have := h3.lt; omega), (h3.alloc _).only o3 (fun hg => by have := h2 _ hg; omega)⟩
    unfold SlAt
    rw [List.append_assoc] at S3
    rw [List.length_append, List.length_replicate]
    exact S3)
   rw [hlen] at eb
   have EB := Lib.hid eb
   have hI2 : (l.length : Int) ≤ (i : Int) := by have := hil.out; omega
   clear eb S3 o3 f3 S
   rw [hlen]
   go_wp2_with fail
   rw [EB.out]
   go_wp2_with fail
   go_roundw
   case rel => exact ⟨1, .inr ⟨rfl, hil.out⟩, H3.out.1, Lib.hid H3.out.2⟩
   case measure => have := hil.out; simp [lenW]; omega
end Go.Proofs.YtbelcgjbhpjnpaaGreat.Sh
