/- pages on the document's disk: Read. -/
import Derived.Test.YtmofbgcanehdoaaPg20
namespace Go.Proofs.Ytmofbgcanehdoaa.Pg
open Go.RowKit Pk Dk
attribute [local go_sem ↓] Go.wp_at_zero Go.wp_at_succ
/-- sectors' bytes, one behind the other -/
def xacc (x : X) (k : Nat) : Nat → ByteArray
  | 0 => ⟨#[]⟩
  | i + 1 => xacc x k i ++ x.nowF (k + i)
theorem xacc_list {n : Nat} {d : D} {x : X} (r : Rel n d x) (k : Nat) : ∀ i, k + i ≤ n → (xacc x k i).data.toList = (d.now.drop (64 * k)).take (64 * i)
  | 0, _ => rfl
  | i + 1, h => by
    show (xacc x k i ++ x.nowF (k + i)).data.toList = _
    rw [ByteArray.data_append, Array.toList_append, xacc_list r k i (by omega), sec_next, r.now _ (by omega)]
set_option maxRecDepth 100000 in
set_option maxHeartbeats 2000000 in
theorem rpread_neg {w : World} (b : Nat) (id : Int) (h : id < 0) :
    Calls Try.prog 30 #[xp b, .int .i64 id] w fun e w' => e = .returned (.tuple #[PG.zero.val, .int .i64 3]) ∧ Below w.heap.size w w' := by
  have B0 := Lib.hid (Blk.new w 23 zeroC)
  have O0 := Lib.hid (belowAlloc (Below.refl w.heap.size w) (.cells zeroC 23))
  unfold xp
  go_enter Try.func30, Try.ntmps30
  go_wp2_with fail
  exact bodyPost_ret (results_cell_p rfl rfl B0.out) rfl ⟨rfl, O0.out⟩
set_option maxRecDepth 100000 in
set_option maxHeartbeats 2000000 in
theorem rpread_far {w : World} {M : XL} {n : Nat} {x : X} (hd : XAt w M n x) (id : Int) (h0 : 0 ≤ id) (h : (manyF n : Int) ≤ id) :
    Calls Try.prog 30 #[xp M.b, .int .i64 id] w fun e w' => e = .returned (.tuple #[PG.zero.val, .int .i64 3]) ∧ Below w.heap.size w w' := by
  have B0 := Lib.hid (Blk.new w 23 zeroC)
  have O0 := belowAlloc (Below.refl w.heap.size w) (.cells zeroC 23)
  have hn := hd.ok.small
  have K := Lib.hid (fun w => rmany_any w n (by omega))
  have f0 := (hd.below O0).f0
  have O0 := Lib.hid O0
  have h1 : ¬ id < 0 := by omega
  clear hd
  unfold xp at *
  go_enter Try.func30, Try.ntmps30
  go_wp2_with fail
  refine (K.out _).mono ?_
  rintro e w1 ⟨rfl, rfl⟩
  go_wp2_with fail
  exact bodyPost_ret (results_cell_p rfl rfl B0.out) rfl ⟨rfl, O0.out⟩
set_option maxRecDepth 100000 in
set_option maxHeartbeats 2000000 in
theorem rpread_down {w : World} {M : XL} {n : Nat} {x : X} (hd : XAt w M n x) (id : Nat) (h : id < manyF n) (hdn : x.down = true) :
    Calls Try.prog 30 #[xp M.b, .int .i64 (id : Nat)] w fun e w' => e = .returned (.tuple #[PG.zero.val, .int .i64 13]) ∧ Below w.heap.size w w' := by
  have B0 := Lib.hid (Blk.new w 23 zeroC)
  have O0 := belowAlloc (Below.refl w.heap.size w) (.cells zeroC 23)
  have hn := hd.ok.small
  have K := Lib.hid (fun w => rmany_any w n (by omega))
  have f0 := (hd.below O0).f0
  have f5 := (hd.below O0).f5
  rw [hdn] at f5
  have O0 := Lib.hid O0
  have h1 : ¬ ((id : Nat) : Int) < 0 := by omega
  have h2 : ¬ ((manyF n : Nat) : Int) ≤ (id : Int) := by omega
  clear hd
  generalize manyF n = mn at *
  unfold xp at *
  go_enter Try.func30, Try.ntmps30
  go_wp2_with fail
  refine (K.out _).mono ?_
  rintro e w1 ⟨rfl, rfl⟩
  go_wp2_with fail
  exact bodyPost_ret (results_cell_p rfl rfl B0.out) rfl ⟨rfl, O0.out⟩
set_option maxRecDepth 100000 in
set_option maxHeartbeats 8000000 in
theorem rpread_up {w : World} {M : XL} {n : Nat} {d : D} {x : X} (hd : XAt w M n x) (r : Rel n d x) (id : Nat) (h : id < manyF n) (hdn : x.down = false) :
    Calls Try.prog 30 #[xp M.b, .int .i64 (id : Nat)] w fun e w' => e = .returned (.tuple #[(preadF d n id).1.val, .int .i64 (preadF d n id).2]) ∧ Below w.heap.size w w' := by
  have hn := hd.ok.small
  have hmn : manyF n ≤ 1023 := by unfold manyF; omega
  have hkn : 2 + 4 * id + 3 < n := by unfold manyF at h; omega
  have B0 := Lib.hid (Blk.new w 23 zeroC)
  have O0 := belowAlloc (Below.refl w.heap.size w) (.cells zeroC 23)
  have K := Lib.hid (fun w => rmany_any w n (by omega))
  have f0 := (hd.below O0).f0
  have f5 := (hd.below O0).f5
  rw [hdn] at f5
  have KR := Lib.hid (fun i (hi : i ≤ 3) w' (hb : Below w.heap.size w w') => xnow_any (hd.below hb) (2 + 4 * id + i) (by omega))
  have O0 := Lib.hid O0
  have hdd : d.down = false := r.down.trans hdn
  obtain ⟨T, hT⟩ : ∃ T, xacc x (2 + 4 * id) 4 = T := ⟨_, rfl⟩
  have hTl : T.data.toList = (d.now.drop (64 * (2 + 4 * id))).take 256 := by rw [← hT]; exact xacc_list r _ 4 (by omega)
  have hres := pread_of (d := d) (n := n) (id := id) h hdd hTl.symm
  have HSZ := Lib.hid (show ∀ i, i ≤ 4 → (xacc x (2 + 4 * id) i).size = 64 * i from fun i hi => by
    have h1 := congrArg List.length (xacc_list r (2 + 4 * id) i (by omega))
    rw [List.length_take, List.length_drop] at h1
    have h2 := r.dok.now
    have h3 : (xacc x (2 + 4 * id) i).data.toList.length = (xacc x (2 + 4 * id) i).size := by simp
    omega)
  have HNW := Lib.hid (show ∀ i, i ≤ 3 → (x.nowF (2 + 4 * id + i)).size = 64 from fun i hi => r.xok.now _ (by omega))
  generalize preadF d n id = R at *
  have HR := Lib.hid hres
  have HT := Lib.hid hT
  have KG := Lib.hid (fun w => rget_any (w := w) T)
  have h1 : ¬ ((id : Nat) : Int) < 0 := by omega
  have h2 : ¬ ((manyF n : Nat) : Int) ≤ (id : Int) := by omega
  clear hd hres hTl hT r
  generalize manyF n = mn at *
  have hmE : decide (mn ≤ id) = false := by simp; omega
  have hmF : decide (((mn : Nat) : Int) ≤ (id : Int)) = false := by simp; omega
  have hmG : decide (((id : Nat) : Int) < 0) = false := by simp
  unfold xp at *
  go_enter Try.func30, Try.ntmps30
  go_wp2_with fail
  refine (K.out _).mono ?_
  rintro e w1 ⟨rfl, rfl⟩
  go_wp2_with fail
  have O2 := O0
  have B2 := B0
  go_loopw [6, 7] (fun sv iv wr => ∃ i : Nat, i ≤ 4 ∧ iv = .int .i64 i ∧ sv = .string (xacc x (2 + 4 * id) i) ∧ Hid (Below w.heap.size w wr) ∧ Hid (Blk wr w.heap.size 23 zeroC)) (fun _ iv _ => 4 - (intOf iv).toNat)
  case atStart => exact ⟨0, by omega, rfl, rfl, O0, B0⟩
  case round =>
    obtain ⟨i, hi, rfl, rfl, O, B⟩ := hrel
    have ii : i = 0 ∨ i = 1 ∨ i = 2 ∨ i = 3 ∨ i = 4 := by omega
    have y1 : IntKind.i64.wrap (4 * (id : Int)) = 4 * (id : Int) := IntWalk.i64_in _ (by omega)
    have y2 : IntKind.i64.wrap (2 + 4 * (id : Int)) = 2 + 4 * (id : Int) := IntWalk.i64_in _ (by omega)
    rcases ii with rfl | rfl | rfl | rfl | rfl
    · have hr := KR.out 0 (by omega) _ O.out
      rw [show ((2 + 4 * id + 0 : Nat) : Int) = 2 + 4 * (id : Int) from by omega] at hr
      have KR1 := Lib.hid hr
      have s1 := HSZ.out 0 (by omega)
      have s2 := HNW.out 0 (by omega)
      have hnext : xacc x (2 + 4 * id) 1 = xacc x (2 + 4 * id) 0 ++ x.nowF (2 + 4 * id + 0) := rfl
      obtain ⟨U, hU⟩ : ∃ U, xacc x (2 + 4 * id) 0 = U := ⟨_, rfl⟩
      obtain ⟨V, hV⟩ : ∃ V, x.nowF (2 + 4 * id + 0) = V := ⟨_, rfl⟩
      rw [hU] at s1 hnext
      rw [hU]
      rw [hV] at s2 hnext KR1
      have HN := Lib.hid hnext
      have y3 : IntKind.i64.wrap (2 + 4 * (id : Int) + 0) = 2 + 4 * (id : Int) + 0 := IntWalk.i64_in _ (by omega)
      have y4 : ¬ 9223372036854775807 < U.size + V.size := by omega
      clear hr hU hV hnext
      go_wp2_with fail
      refine KR1.out.mono ?_
      rintro e wz hx
      obtain ⟨rfl, hbz⟩ : e = .returned (.string V) ∧ Below wr.heap.size wr wz := by first | exact hx | exact ⟨hx.1, by rw [hx.2]; exact Below.refl _ _⟩ | exact ⟨hx.1, by rw [← hx.2]; exact Below.refl _ _⟩
      have OZ := Lib.hid (bstep O.out hbz)
      have BZ := Lib.hid (B.out.below hbz B.out.lt)
      clear hbz hx
      go_wp2_with fail
      go_roundw
      case rel => exact ⟨1, by omega, by first | rfl | simp, by rw [HN.out], OZ, BZ⟩
      case measure => first | decide | simp [intOf]
    · have hr := KR.out 1 (by omega) _ O.out
      rw [show ((2 + 4 * id + 1 : Nat) : Int) = 2 + 4 * (id : Int) + 1 from by omega] at hr
      have KR1 := Lib.hid hr
      have s1 := HSZ.out 1 (by omega)
      have s2 := HNW.out 1 (by omega)
      have hnext : xacc x (2 + 4 * id) 2 = xacc x (2 + 4 * id) 1 ++ x.nowF (2 + 4 * id + 1) := rfl
      obtain ⟨U, hU⟩ : ∃ U, xacc x (2 + 4 * id) 1 = U := ⟨_, rfl⟩
      obtain ⟨V, hV⟩ : ∃ V, x.nowF (2 + 4 * id + 1) = V := ⟨_, rfl⟩
      rw [hU] at s1 hnext
      rw [hU]
      rw [hV] at s2 hnext KR1
      have HN := Lib.hid hnext
      have y3 : IntKind.i64.wrap (2 + 4 * (id : Int) + 1) = 2 + 4 * (id : Int) + 1 := IntWalk.i64_in _ (by omega)
      have y4 : ¬ 9223372036854775807 < U.size + V.size := by omega
      clear hr hU hV hnext
      go_wp2_with fail
      refine KR1.out.mono ?_
      rintro e wz hx
      obtain ⟨rfl, hbz⟩ : e = .returned (.string V) ∧ Below wr.heap.size wr wz := by first | exact hx | exact ⟨hx.1, by rw [hx.2]; exact Below.refl _ _⟩ | exact ⟨hx.1, by rw [← hx.2]; exact Below.refl _ _⟩
      have OZ := Lib.hid (bstep O.out hbz)
      have BZ := Lib.hid (B.out.below hbz B.out.lt)
      clear hbz hx
      go_wp2_with fail
      go_roundw
      case rel => exact ⟨2, by omega, by first | rfl | simp, by rw [HN.out], OZ, BZ⟩
      case measure => first | decide | simp [intOf]
    · have hr := KR.out 2 (by omega) _ O.out
      rw [show ((2 + 4 * id + 2 : Nat) : Int) = 2 + 4 * (id : Int) + 2 from by omega] at hr
      have KR1 := Lib.hid hr
      have s1 := HSZ.out 2 (by omega)
      have s2 := HNW.out 2 (by omega)
      have hnext : xacc x (2 + 4 * id) 3 = xacc x (2 + 4 * id) 2 ++ x.nowF (2 + 4 * id + 2) := rfl
      obtain ⟨U, hU⟩ : ∃ U, xacc x (2 + 4 * id) 2 = U := ⟨_, rfl⟩
      obtain ⟨V, hV⟩ : ∃ V, x.nowF (2 + 4 * id + 2) = V := ⟨_, rfl⟩
      rw [hU] at s1 hnext
      rw [hU]
      rw [hV] at s2 hnext KR1
      have HN := Lib.hid hnext
      have y3 : IntKind.i64.wrap (2 + 4 * (id : Int) + 2) = 2 + 4 * (id : Int) + 2 := IntWalk.i64_in _ (by omega)
      have y4 : ¬ 9223372036854775807 < U.size + V.size := by omega
      clear hr hU hV hnext
      go_wp2_with fail
      refine KR1.out.mono ?_
      rintro e wz hx
      obtain ⟨rfl, hbz⟩ : e = .returned (.string V) ∧ Below wr.heap.size wr wz := by first | exact hx | exact ⟨hx.1, by rw [hx.2]; exact Below.refl _ _⟩ | exact ⟨hx.1, by rw [← hx.2]; exact Below.refl _ _⟩
      have OZ := Lib.hid (bstep O.out hbz)
      have BZ := Lib.hid (B.out.below hbz B.out.lt)
      clear hbz hx
      go_wp2_with fail
      go_roundw
      case rel => exact ⟨3, by omega, by first | rfl | simp, by rw [HN.out], OZ, BZ⟩
      case measure => first | decide | simp [intOf]
    · have hr := KR.out 3 (by omega) _ O.out
      rw [show ((2 + 4 * id + 3 : Nat) : Int) = 2 + 4 * (id : Int) + 3 from by omega] at hr
      have KR1 := Lib.hid hr
      have s1 := HSZ.out 3 (by omega)
      have s2 := HNW.out 3 (by omega)
      have hnext : xacc x (2 + 4 * id) 4 = xacc x (2 + 4 * id) 3 ++ x.nowF (2 + 4 * id + 3) := rfl
      obtain ⟨U, hU⟩ : ∃ U, xacc x (2 + 4 * id) 3 = U := ⟨_, rfl⟩
      obtain ⟨V, hV⟩ : ∃ V, x.nowF (2 + 4 * id + 3) = V := ⟨_, rfl⟩
      rw [hU] at s1 hnext
      rw [hU]
      rw [hV] at s2 hnext KR1
      have HN := Lib.hid hnext
      have y3 : IntKind.i64.wrap (2 + 4 * (id : Int) + 3) = 2 + 4 * (id : Int) + 3 := IntWalk.i64_in _ (by omega)
      have y4 : ¬ 9223372036854775807 < U.size + V.size := by omega
      clear hr hU hV hnext
      go_wp2_with fail
      refine KR1.out.mono ?_
      rintro e wz hx
      obtain ⟨rfl, hbz⟩ : e = .returned (.string V) ∧ Below wr.heap.size wr wz := by first | exact hx | exact ⟨hx.1, by rw [hx.2]; exact Below.refl _ _⟩ | exact ⟨hx.1, by rw [← hx.2]; exact Below.refl _ _⟩
      have OZ := Lib.hid (bstep O.out hbz)
      have BZ := Lib.hid (B.out.below hbz B.out.lt)
      clear hbz hx
      go_wp2_with fail
      go_roundw
      case rel => exact ⟨4, by omega, by first | rfl | simp, by rw [HN.out], OZ, BZ⟩
      case measure => first | decide | simp [intOf]
    · rw [HT.out]
      go_wp2_with fail
      refine (KG.out _).mono ?_
      rintro e w5 ⟨rfl, hb5⟩
      obtain ⟨P, hP⟩ : ∃ P, (gotF T.data.toList).1 = P := ⟨_, rfl⟩
      obtain ⟨er, her⟩ : ∃ er, (gotF T.data.toList).2 = er := ⟨_, rfl⟩
      have GP := Lib.hid (And.intro hP her)
      rw [hP, her]
      clear hP her
      obtain ⟨pid, pep, pkd, ps⟩ := P
      have O6 := Lib.hid (belowAlloc (bstep O.out hb5) (.cells #[.int .i64 pid, .int .i64 pep, .int .i64 pkd, .string ⟨ps.toArray⟩] 23))
      have B6 := Lib.hid ((B.out.below hb5 B.out.lt).alloc (.cells #[.int .i64 pid, .int .i64 pep, .int .i64 pkd, .string ⟨ps.toArray⟩] 23))
      have P6 := Lib.hid (Blk.new w5 23 #[.int .i64 pid, .int .i64 pep, .int .i64 pkd, .string ⟨ps.toArray⟩])
      clear hb5
      unfold PG.val pageV
      dsimp only
      have z0 := B6.out.frozen 0 (by simp)
      have z1 := B6.out.frozen 1 (by simp)
      have z2 := B6.out.frozen 2 (by simp)
      have z3 := B6.out.frozen 3 (by simp)
      have c0 := B6.out.cell_some (i := 0) rfl
      have c1 := B6.out.cell_some (i := 1) rfl
      have c2 := B6.out.cell_some (i := 2) rfl
      have c3 := B6.out.cell_some (i := 3) rfl
      have p0 := P6.out.cell_some (i := 0) rfl
      have p1 := P6.out.cell_some (i := 1) rfl
      have p2 := P6.out.cell_some (i := 2) rfl
      have p3 := P6.out.cell_some (i := 3) rfl
      have ZB := Lib.hid (storeP B6.out rfl 0 0 0 ⟨#[]⟩)
      have ZO := Lib.hid (storeP_below O6.out (Nat.le_refl _) 0 0 0 ⟨#[]⟩)
      have YB := Lib.hid (storeP B6.out rfl pid pep pkd ⟨ps.toArray⟩)
      have YO := Lib.hid (storeP_below O6.out (Nat.le_refl _) pid pep pkd ⟨ps.toArray⟩)
      by_cases her : er = 0
      · subst her
        by_cases hpi : pid = id
        · have hq : (pid != (id : Int)) = false := by rw [bne_eq_false_iff_eq]; exact hpi
          have RES := Lib.hid (show (if (gotF T.data.toList).2 ≠ 0 then (PG.zero, (gotF T.data.toList).2) else if (gotF T.data.toList).1.id ≠ (id : Int) then (PG.zero, 14) else ((gotF T.data.toList).1, 0)) = (⟨pid, pep, pkd, ps⟩, 0) from by
            rw [GP.out.1, GP.out.2]; simp [hpi])
          clear hpi
          go_wp2_with fail
          exact bodyPost_ret (results_cell_p rfl rfl YB.out) rfl ⟨by rw [HR.out.trans RES.out]; rfl, YO.out⟩
        · have hq : (pid != (id : Int)) = true := by rw [bne_iff_ne]; exact hpi
          have RES := Lib.hid (show (if (gotF T.data.toList).2 ≠ 0 then (PG.zero, (gotF T.data.toList).2) else if (gotF T.data.toList).1.id ≠ (id : Int) then (PG.zero, 14) else ((gotF T.data.toList).1, 0)) = (PG.zero, 14) from by
            rw [GP.out.1, GP.out.2]; simp [hpi])
          clear hpi
          go_wp2_with fail
          exact bodyPost_ret (results_cell_p rfl rfl ZB.out) rfl ⟨by rw [HR.out.trans RES.out]; rfl, ZO.out⟩
      · have hq : (er != 0) = true := by rw [bne_iff_ne]; exact her
        have RES := Lib.hid (show (if (gotF T.data.toList).2 ≠ 0 then (PG.zero, (gotF T.data.toList).2) else if (gotF T.data.toList).1.id ≠ (id : Int) then (PG.zero, 14) else ((gotF T.data.toList).1, 0)) = (PG.zero, er) from by
          rw [GP.out.1, GP.out.2, if_pos her])
        clear her
        go_wp2_with fail
        exact bodyPost_ret (results_cell_p rfl rfl ZB.out) rfl ⟨by rw [HR.out.trans RES.out]; rfl, ZO.out⟩
theorem rpread_any {w : World} {M : XL} {n : Nat} {d : D} {x : X} (hd : XAt w M n x) (r : Rel n d x) (id : Int) :
    Calls Try.prog 30 #[xp M.b, .int .i64 id] w fun e w' => e = .returned (.tuple #[(preadF d n id).1.val, .int .i64 (preadF d n id).2]) ∧ Below w.heap.size w w' := by
  by_cases h0 : id < 0
  · have : preadF d n id = (.zero, 3) := by unfold preadF; rw [if_pos (.inl h0)]
    rw [this]
    exact rpread_neg M.b id h0
  · by_cases h1 : (manyF n : Int) ≤ id
    · have : preadF d n id = (.zero, 3) := by unfold preadF; rw [if_pos (.inr h1)]
      rw [this]
      exact rpread_far hd id (by omega) h1
    · obtain ⟨a, rfl⟩ := Int.eq_ofNat_of_zero_le (show 0 ≤ id by omega)
      cases hdn : x.down
      · exact rpread_up hd r a (by omega) hdn
      · have : preadF d n a = (.zero, 13) := by unfold preadF; rw [if_neg (by omega), if_pos (r.down.trans hdn)]
        rw [this]
        exact rpread_down hd a (by omega) hdn
end Go.Proofs.Ytmofbgcanehdoaa.Pg
