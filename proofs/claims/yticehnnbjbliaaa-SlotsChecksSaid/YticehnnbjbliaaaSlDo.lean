/- slots: do, and calls that came in. -/
import Derived.Test.YticehnnbjbliaaaSlLaw
import Derived.Deep.Slices
import Derived.Deep.Grids
import Derived.Lib.SmallJoins
namespace Go.Proofs.Yticehnnbjbliaaa.Sl
open Go.RowKit Go.Deep Go.ChangeShapes Go.WideShapes
attribute [local go_sem ↓] exec_app

theorem quietS {P : Program} {f : FuncId} {args : Array Value} {w : World} {n : Nat} {v : Value} (h : Calls P f args (w.drewN n) fun e w' => e = .returned v ∧ w.drewN n = w') : Calls P f args (w.drewN n) fun e w'' => e = .returned v ∧ ∃ m, w'' = w.drewN m := h.mono fun _ _ ⟨he, hm⟩ => ⟨he, n, hm.symm⟩
/-- a payload and a list, with the same records -/
structure Pair (w : World) (base : Nat) (b : ByteArray) (v : Value) (l : List (List UInt8)) : Prop where
  s : Sound b.data.toList
  r : recs b.data.toList = l
  S : Slc w 9 1 v l.length (strs l)
  F : ∀ g ∈ ownB v, base ≤ g
theorem Pair.below {w w' : World} {base : Nat} {b : ByteArray} {v : Value} {l : List (List UInt8)} (h : Pair w base b v l) (hb : Below w.heap.size w w') : Pair w' base b v l := ⟨h.s, h.r, h.S.below hb, h.F⟩
/-- behind a call: both are alike again -/
def Did (w : World) (base : Nat) (e : Ending) (w' : World) : Prop := ∃ b v l, e = .returned (.tuple #[.string b, v, .bool true]) ∧ Pair w' base b v l ∧ Below w.heap.size w w'
def actV (k i : Int) (r : ByteArray) : Value := .agg #[.int .i64 k, .int .i64 i, .string r]
theorem Put1.pair {w w' : World} {n : Nat} {L : List (List UInt8)} {v : Value} (h : Put1 w n L w' v) (b : ByteArray) (hs : Sound b.data.toList) (hr : recs b.data.toList = L) (hn : L.length = n) {base : Nat} (hb : base ≤ w.heap.size) : Pair w' base b v L :=
  ⟨hs, hr, by rw [hn]; exact h.1, fun g hg => Nat.le_trans hb (h.2.2 g hg)⟩
def room_lt (a : Int) (n : Nat) : Prop := a - 4 < (n : Int)
theorem insG_full' {b : List UInt8} (h : Sound b) (i : Nat) (r : List UInt8) (hr : roomR (recs b) - 4 < (r.length : Int)) (hi : i ≤ (recs b).length) : insG b i r = ([], 11) := by
  rw [recs_length] at hi
  rw [← room_eq h] at hr
  unfold insG
  rw [if_pos ((checkF_ok b).2 h), if_pos ⟨by omega, by omega⟩, if_neg (by omega)]
theorem insG_range {b : List UInt8} (h : Sound b) (i : Int) (r : List UInt8) (hi : ¬ (0 ≤ i ∧ i ≤ ((recs b).length : Int))) : insG b i r = ([], 3) := by
  rw [recs_length] at hi
  unfold insG
  rw [if_pos ((checkF_ok b).2 h), if_neg hi]
set_option maxRecDepth 100000 in
set_option maxHeartbeats 4000000 in
theorem do_put {w : World} {base : Nat} {b : ByteArray} {v : Value} {l : List (List UInt8)} (h : Pair w base b v l) (hb : base ≤ w.heap.size) (k i : Int) (hk : k = 0 ∨ k = 1 ∨ k = 2 ∨ k = 3) (r : ByteArray) (hr : r.size ≤ 1000) :
    Calls Try.prog 13 #[.string b, v, actV k i r] w (Did w base) := by
  have hsz : b.size = 232 := by have := h.s.len; simpa using this
  have hrl : r.data.toList.length = r.size := by simp
  have hmany := recs_many h.s
  have hsmall := recs_small h.s
  rw [h.r] at hmany hsmall
  obtain ⟨A, c, rfl⟩ := slc_val h.S
  have b0 := (Below.refl w.heap.size w).alloc (Nat.le_refl _) (.cells #[.int .i64 k, .int .i64 i, .string r] 33)
  have H0 := Lib.hid (h.below b0)
  have O0 := Lib.hid b0
  have B0 := Lib.hid (Blk.new w 33 #[.int .i64 k, .int .i64 i, .string r])
  have KI := Lib.hid (fun w' => insert_any b r i w' (by omega) (by omega))
  have hnl : l.length = at2 b.data.toList 0 := by rw [← h.r, recs_length]
  by_cases hi : 0 ≤ i ∧ i ≤ (l.length : Int)
  · obtain ⟨j, rfl⟩ := Int.eq_ofNat_of_zero_le hi.1
    have hj : j ≤ l.length := by omega
    have hlo : -1000000 ≤ roomR l ∧ roomR l ≤ 228 := by
      have h1 := h.s.sum
      have h2 := h.s.heap
      have h4 := room_eq h.s
      have h5 := roomF_eq h.s
      have h6 := h.s.head
      rw [h.r] at h4
      constructor
      · omega
      · unfold roomR; omega
    have HRM := Lib.hid (fun (w' : World) (T : Slc w' 9 1 (.slice A l.length c) l.length (strs l)) => rroom_any T (by omega) (fun r hr => by have := hsmall r hr; omega))
    by_cases hf : (r.size : Int) ≤ roomR l - 4
    · obtain ⟨i1, s1, r1⟩ := insG_ok h.s j r.data.toList (by rw [h.r, hrl]; exact hf) (by rw [h.r]; exact hj)
      obtain ⟨T, hT⟩ := ba_of (insF b.data.toList j r.data.toList)
      rw [← hT] at i1 s1 r1
      rw [i1, ba_eq] at KI
      rw [h.r] at r1
      have HP := Lib.hid (fun (w' : World) (S : Slc w' 9 1 (.slice A l.length c) l.length (strs l)) => rput_any S j hj (by omega) r)
      have HF := Lib.hid (fun (w1 w2 : World) (v2 : Value) (hp : Put1 w1 (l.length + 1) (l.take j ++ r.data.toList :: l.drop j) w2 v2) (hb : base ≤ w1.heap.size) => hp.pair T s1 r1 (by simp; omega) hb)
      clear i1 s1 r1 hT hsmall hrl hnl h b0
      generalize roomR l = room at *
      obtain ⟨q1, q2⟩ := hlo
      have hi2 := hi.2
      clear hi
      rcases hk with rfl | rfl | rfl | rfl
      all_goals
        unfold actV
        go_enter Try.func13, Try.ntmps13
        go_wp2_with fail
        generalize w.alloc (.cells _ 33) = W at *
        have c1 := B0.out.cell_some (i := 1) rfl
        have c2 := B0.out.cell_some (i := 2) rfl
        refine (KI.out _).mono ?_
        rintro e w1 ⟨rfl, hb1⟩
        have H1 := Lib.hid (H0.out.below hb1)
        have O1 := Lib.hid (bstep O0.out hb1)
        have B1 := Lib.hid (B0.out.below hb1 B0.out.lt)
        have c1 := B1.out.cell_some (i := 1) rfl
        have c2 := B1.out.cell_some (i := 2) rfl
        have KR := Lib.hid (fun k => HRM.out _ (H1.out.S.drewN k))
        clear hb1
        go_wp2_with fail
        go_quiet ((go_at_call 27; exact quietS (KR.out _)))
        have KP := Lib.hid (HP.out _ (H1.out.S.drewN nq))
        go_wp2_with fail
        refine KP.out.mono ?_
        rintro e w3 ⟨v3, rfl, P3⟩
        have R3 := Lib.hid (HF.out _ _ _ P3 (Nat.le_trans hb O1.out.size))
        have O3 := Lib.hid (bstep (Below_drewN O1.out nq) P3.2.1)
        clear P3
        go_wp2_with fail
        go_ret3
        exact ⟨_, _, _, rfl, R3.out, O3.out⟩
    · have i1 := insG_full' h.s j r.data.toList (by rw [h.r, hrl]; omega) (by rw [h.r]; exact hj)
      rw [i1] at KI
      have HFl := Lib.hid (show room_lt (roomR l) r.size from by show roomR l - 4 < (r.size : Int); omega)
      clear i1 hsmall hrl hnl h b0
      generalize roomR l = room at *
      obtain ⟨q1, q2⟩ := hlo
      have hi2 := hi.2
      have hf2 : room - 4 < (r.size : Int) := HFl.out
      clear hi hf
      rcases hk with rfl | rfl | rfl | rfl
      all_goals
        unfold actV
        go_enter Try.func13, Try.ntmps13
        go_wp2_with fail
        generalize w.alloc (.cells _ 33) = W at *
        have c1 := B0.out.cell_some (i := 1) rfl
        have c2 := B0.out.cell_some (i := 2) rfl
        refine (KI.out _).mono ?_
        rintro e w1 ⟨rfl, hb1⟩
        have H1 := Lib.hid (H0.out.below hb1)
        have O1 := Lib.hid (bstep O0.out hb1)
        have B1 := Lib.hid (B0.out.below hb1 B0.out.lt)
        have c1 := B1.out.cell_some (i := 1) rfl
        have c2 := B1.out.cell_some (i := 2) rfl
        have KR := Lib.hid (fun k => HRM.out _ (H1.out.S.drewN k))
        clear hb1
        go_wp2_with fail
        go_quiet ((go_at_call 27; exact quietS (KR.out _)))
        go_wp2_with fail
        go_ret3
        exact ⟨_, _, _, rfl, ⟨H1.out.s, H1.out.r, H1.out.S.drewN nq, H1.out.F⟩, Below_drewN O1.out nq⟩
  · have i1 := insG_range h.s i r.data.toList (by rw [h.r]; exact hi)
    rw [i1] at KI
    have hx : i < 0 ∨ (¬ i < 0 ∧ (l.length : Int) < i) := by omega
    clear i1 hsmall hrl hnl h b0 hi
    rcases hx with h1 | ⟨h1, h2⟩
    all_goals
      rcases hk with rfl | rfl | rfl | rfl
      all_goals
        unfold actV
        go_enter Try.func13, Try.ntmps13
        go_wp2_with fail
        generalize w.alloc (.cells _ 33) = W at *
        have c1 := B0.out.cell_some (i := 1) rfl
        refine (KI.out _).mono ?_
        rintro e w1 ⟨rfl, hb1⟩
        have H1 := Lib.hid (H0.out.below hb1)
        have O1 := Lib.hid (bstep O0.out hb1)
        have B1 := Lib.hid (B0.out.below hb1 B0.out.lt)
        have c1 := B1.out.cell_some (i := 1) rfl
        clear hb1
        go_wp2_with fail
        go_ret3
        exact ⟨_, _, _, rfl, H1.out, O1.out⟩
end Go.Proofs.Yticehnnbjbliaaa.Sl
