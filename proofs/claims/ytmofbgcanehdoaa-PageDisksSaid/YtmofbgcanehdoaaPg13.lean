/- pages on a disk: what was written is read. -/
import Derived.Test.YtmofbgcanehdoaaPg12
namespace Go.Proofs.Ytmofbgcanehdoaa.Pg
open Go.RowKit Pk Dk
theorem beN_be8 (N : Nat) (h : N < 18446744073709551616) : beN (be8 N) = N := by
  have e : be8 N = [UInt8.ofNat (N / 72057594037927936), UInt8.ofNat (N / 281474976710656), UInt8.ofNat (N / 1099511627776), UInt8.ofNat (N / 4294967296), UInt8.ofNat (N / 16777216), UInt8.ofNat (N / 65536), UInt8.ofNat (N / 256), UInt8.ofNat (N / 1)] := rfl
  rw [e]
  simp only [beN, List.foldl_cons, List.foldl_nil, UInt8.toNat_ofNat']
  omega
theorem packI_get (n : Int) (h0 : 0 ≤ n) (h1 : n ≤ 9223372036854775807) : (beN (packI n) : Int) - 9223372036854775808 = n := by
  unfold packI
  rw [beN_be8 _ (by omega)]
  omega
theorem beN_kd (N : Nat) (h : N ≤ 2147483647) : beN ((be8 N).drop 4) = N := by
  rw [drop_be8]
  simp only [beN, List.foldl_cons, List.foldl_nil, UInt8.toNat_ofNat']
  omega
theorem take_app {α} (a b : List α) (n : Nat) (h : a.length = n) : (a ++ b).take n = a := by rw [List.take_append_of_le_length (by omega), List.take_of_length_le (by omega)]
theorem drop_app {α} (a b : List α) (n : Nat) (h : a.length = n) : (a ++ b).drop n = b := by rw [← h]; exact List.drop_left
theorem pad_parts (id ep kd : Int) (s : List UInt8) (h : s.length ≤ 232) : padL (bodyL id ep kd s) 252 = packI id ++ (packI ep ++ ((be8 kd.toNat).drop 4 ++ padL s 232)) := by
  rw [← pad_body id ep kd s h]
  simp only [List.append_assoc]
/-- what was laid is read -/
theorem gotF_page {id ep kd : Int} {s : List UInt8} (hok : okP id ep kd = true) (hid : id ≤ 9223372036854775807) (hs : s.length ≤ 232) :
    gotF (pageL id ep kd s) = (⟨id, ep, kd, padL s 232⟩, 0) := by
  have hb := (okP_iff id ep kd).1 hok
  have hpl : (padL (bodyL id ep kd s) 252).length = 252 := by
    have : (bodyL id ep kd s).length = 20 + s.length := by unfold bodyL; simp [packI_len, be8_len]; omega
    unfold padL; rw [List.length_append, List.length_replicate]; omega
  have hd4 : (pageL id ep kd s).drop 4 = padL (bodyL id ep kd s) 252 := drop_app _ _ 4 rfl
  have ht4 : (pageL id ep kd s).take 4 = Crc.fourL (Crc.sumF (padL (bodyL id ep kd s) 252)) := take_app _ _ 4 rfl
  have hlen : (pageL id ep kd s).length = 256 := by
    unfold pageL Crc.layF
    rw [List.length_append, hpl]; rfl
  have f4 : ((be8 kd.toNat).drop 4).length = 4 := by rw [List.length_drop, be8_len]
  have e1 : (pageL id ep kd s).drop 12 = packI ep ++ ((be8 kd.toNat).drop 4 ++ padL s 232) := by
    rw [show 12 = 4 + 8 from rfl, ← List.drop_drop, hd4, pad_parts _ _ _ _ hs]
    exact drop_app _ _ 8 (packI_len _)
  have e2 : (pageL id ep kd s).drop 20 = (be8 kd.toNat).drop 4 ++ padL s 232 := by
    rw [show 20 = 12 + 8 from rfl, ← List.drop_drop, e1]
    exact drop_app _ _ 8 (packI_len _)
  have e3 : (pageL id ep kd s).drop 24 = padL s 232 := by
    rw [show 24 = 20 + 4 from rfl, ← List.drop_drop, e2]
    exact drop_app _ _ 4 f4
  have hdec : decG (pageL id ep kd s) = ⟨id, ep, kd, padL s 232⟩ := by
    unfold decG
    rw [e1, e2, e3, hd4, pad_parts _ _ _ _ hs, take_app _ _ 8 (packI_len _), take_app _ _ 8 (packI_len _), take_app _ _ 4 f4, packI_get id hb.1 hid, packI_get ep hb.2.1 (by omega), beN_kd _ (by omega)]
    congr 1
    omega
  unfold gotF
  rw [if_neg (by rw [hlen]; simp), hd4, ht4, if_neg (by simp), hdec]
  simp only [hok, if_true]
theorem count_now (d : D) : d.countF.1.now = d.now := by
  unfold D.countF
  split
  · rfl
  · split <;> rfl
theorem count_quiet (d : D) (h : d.armed = 0) : d.countF.2 = 0 ∧ d.countF.1.armed = 0 ∧ d.countF.1.down = d.down := by
  unfold D.countF
  rw [if_pos h]
  exact ⟨rfl, h, rfl⟩
theorem keep_quiet (d : D) (i : Nat) : (d.keepF i).armed = d.armed ∧ (d.keepF i).down = d.down := by unfold D.keepF; split <;> exact ⟨rfl, rfl⟩
theorem write_fine {d : D} {n k : Nat} (hd : d.down = false) (ha : d.armed = 0) (hk : k < n) (s : List UInt8) : (d.writeF n k s).2 = 0 ∧ (d.writeF n k s).1.down = false ∧ (d.writeF n k s).1.armed = 0 := by
  have h0 : d.atF n k = 0 := by rw [atF_val d n k hk]; simp [hd]
  unfold D.writeF
  rw [if_pos h0]
  have h1 : (d.putF (k : Int).toNat s).armed = 0 := ((keep_quiet d _).1).trans ha
  have h2 : (d.putF (k : Int).toNat s).down = false := ((keep_quiet d _).2).trans hd
  obtain ⟨c1, c2, c3⟩ := count_quiet _ h1
  exact ⟨c1, c3.trans h2, c2⟩
theorem w4_fine {d : D} {n k : Nat} (b : List UInt8) (hd : d.down = false) (ha : d.armed = 0) : ∀ i, k + i ≤ n → (w4 d n k b i).2 = 0 ∧ (w4 d n k b i).1.down = false ∧ (w4 d n k b i).1.armed = 0
  | 0, _ => ⟨rfl, hd, ha⟩
  | i + 1, hi => by
    obtain ⟨h1, h2, h3⟩ := w4_fine (n := n) (k := k) b hd ha i (by omega)
    rw [w4_ok d n k b i h1]
    rw [show (k : Int) + (i : Int) = ((k + i : Nat) : Int) by omega]
    exact write_fine h2 h3 (by omega) _
theorem fill_same (c : List UInt8) (h : c.length = 64) : fillF c = c := by
  unfold fillF
  rw [h, Nat.sub_self, List.replicate_zero, List.append_nil, List.take_of_length_le (by omega)]
theorem write_now {d : D} {n : Nat} (hok : d.Ok n) (k : Nat) (hk : k < n) (s : List UInt8) (he : (d.writeF n k s).2 = 0) (j : Nat) (hj : j < n) : sec (d.writeF n k s).1.now j = if k = j then fillF s else sec d.now j := by
  unfold D.writeF at he ⊢
  by_cases h0 : d.atF n k = 0
  · rw [if_pos h0, count_now]
    show sec (setSec d.now (k : Int).toNat (fillF s)) j = _
    rw [show ((k : Nat) : Int).toNat = k from by omega]
    exact sec_set hok.now hk (fillF_length s) hj
  · rw [if_neg h0] at he
    exact absurd he h0
theorem w4_now {d : D} {n k : Nat} (hok : d.Ok n) (b : List UInt8) (hb : b.length = 256) : ∀ i, i ≤ 4 → k + i ≤ n → (w4 d n k b i).2 = 0 → ∀ j, j < n → sec (w4 d n k b i).1.now j = if k ≤ j ∧ j < k + i then (b.drop (64 * (j - k))).take 64 else sec d.now j
  | 0, _, _, _, j, _ => by rw [if_neg (by omega)]; rfl
  | i + 1, hi, hkn, he, j, hj => by
    have h1 : (w4 d n k b i).2 = 0 := by
      by_cases h : (w4 d n k b i).2 = 0
      · exact h
      · rw [w4_stop d n k b i (i + 1) h (by omega)] at he
        exact absurd he h
    have ih := w4_now hok b hb i (by omega) (by omega) h1 j hj
    rw [w4_ok d n k b i h1] at he ⊢
    rw [show (k : Int) + (i : Int) = ((k + i : Nat) : Int) by omega] at he ⊢
    rw [write_now (w4_okD hok k b i) (k + i) (by omega) _ he j hj]
    by_cases hji : k + i = j
    · rw [if_pos hji, if_pos (by omega), fill_same _ (by rw [List.length_take, List.length_drop]; omega)]
      congr 3; omega
    · rw [if_neg hji, ih]
      by_cases hr : k ≤ j ∧ j < k + i
      · rw [if_pos hr, if_pos (by omega)]
      · rw [if_neg hr, if_neg (by omega)]
theorem take4_sec (F : List UInt8) (k : Nat) : (F.drop (64 * k)).take 256 = sec F k ++ sec F (k + 1) ++ sec F (k + 2) ++ sec F (k + 3) := by
  have h0 := sec_next F k 0
  have h1 := sec_next F k 1
  have h2 := sec_next F k 2
  have h3 := sec_next F k 3
  simp only [Nat.mul_zero, List.take_zero, List.nil_append, Nat.add_zero] at h0
  rw [show (256 : Nat) = 64 * (3 + 1) from rfl, h3, h2, h1, h0]
theorem chunks (b : List UInt8) (hb : b.length = 256) : (b.drop (64 * 0)).take 64 ++ (b.drop (64 * 1)).take 64 ++ (b.drop (64 * 2)).take 64 ++ (b.drop (64 * 3)).take 64 = b := by
  have := take4_sec b 0
  rw [Nat.mul_zero, List.drop_zero, List.take_of_length_le (by omega)] at this
  exact this.symm
/-- the page's bytes, behind a write that went well -/
theorem pwrite_bytes {d : D} {n : Nat} (hok : d.Ok n) (id : Nat) (b : List UInt8) (hb : b.length = 256) (hid : id < manyF n) (he : (w4 d n (2 + 4 * id) b 4).2 = 0) :
    ((w4 d n (2 + 4 * id) b 4).1.now.drop (64 * (2 + 4 * id))).take 256 = b := by
  have hk : 2 + 4 * id + 3 < n := by unfold manyF at hid; omega
  have hw := w4_now hok b hb 4 (by omega) (by omega) he
  rw [take4_sec, hw _ (by omega), hw _ (by omega), hw _ (by omega), hw _ (by omega)]
  rw [if_pos (by omega), if_pos (by omega), if_pos (by omega), if_pos (by omega)]
  have := chunks b hb
  rw [show 2 + 4 * id - (2 + 4 * id) = 0 by omega, show 2 + 4 * id + 1 - (2 + 4 * id) = 1 by omega, show 2 + 4 * id + 2 - (2 + 4 * id) = 2 by omega, show 2 + 4 * id + 3 - (2 + 4 * id) = 3 by omega]
  exact this
/-- another page's bytes -/
theorem pwrite_other {d : D} {n : Nat} (hok : d.Ok n) (id jd : Nat) (b : List UInt8) (hb : b.length = 256) (hid : id < manyF n) (hjd : jd < manyF n) (hne : id ≠ jd) (he : (w4 d n (2 + 4 * id) b 4).2 = 0) :
    ((w4 d n (2 + 4 * id) b 4).1.now.drop (64 * (2 + 4 * jd))).take 256 = (d.now.drop (64 * (2 + 4 * jd))).take 256 := by
  have hk : 2 + 4 * id + 3 < n := by unfold manyF at hid; omega
  have hk2 : 2 + 4 * jd + 3 < n := by unfold manyF at hjd; omega
  have hw := w4_now hok b hb 4 (by omega) (by omega) he
  rw [take4_sec, hw _ (by omega), hw _ (by omega), hw _ (by omega), hw _ (by omega), take4_sec]
  rw [if_neg (by omega), if_neg (by omega), if_neg (by omega), if_neg (by omega)]
theorem pread_of {d : D} {n : Nat} {id : Nat} {b : List UInt8} (hid : id < manyF n) (hd : d.down = false) (hb : (d.now.drop (64 * (2 + 4 * id))).take 256 = b) :
    preadF d n id = if (gotF b).2 ≠ 0 then (.zero, (gotF b).2) else if (gotF b).1.id ≠ (id : Int) then (.zero, 14) else ((gotF b).1, 0) := by
  unfold preadF
  rw [if_neg (by omega), if_neg (by simp [hd]), show ((id : Nat) : Int).toNat = id from by omega, hb]
/-- what was written is read -/
theorem write_read {d : D} {n : Nat} (hok : d.Ok n) (hd : d.down = false) (ha : d.armed = 0) (id : Nat) (ep kd : Int) (s : List UInt8) (hid : id < manyF n) (hp : okP id ep kd = true) (hs : s.length ≤ 232) :
    (pwriteF d n id ep kd s).2 = 0 ∧ (pwriteF d n id ep kd s).1.down = false ∧ (pwriteF d n id ep kd s).1.armed = 0 ∧ preadF (pwriteF d n id ep kd s).1 n id = (⟨id, ep, kd, padL s 232⟩, 0) ∧
      ∀ jd, jd < manyF n → jd ≠ id → preadF (pwriteF d n id ep kd s).1 n jd = preadF d n jd := by
  have hput : putF id ep kd s = (pageL id ep kd s, 0) := by unfold putF; rw [if_pos hp, if_neg (by omega)]
  have hlen := (putF_len (by rw [hput])).1
  rw [hput] at hlen
  have hw : pwriteF d n id ep kd s = w4 d n (2 + 4 * id) (pageL id ep kd s) 4 := by
    unfold pwriteF
    rw [hput]
    rw [if_neg (by simp), if_neg (by omega)]; rfl
  have hk : 2 + 4 * id + 4 ≤ n := by unfold manyF at hid; omega
  have hid2 : ((id : Nat) : Int) ≤ 9223372036854775807 := by have := hok.small; unfold manyF at hid; omega
  obtain ⟨f1, f2, f3⟩ := w4_fine (k := 2 + 4 * id) (pageL id ep kd s) hd ha 4 hk
  rw [hw]
  refine ⟨f1, f2, f3, ?_, fun jd hjd hne => ?_⟩
  · rw [pread_of hid f2 (pwrite_bytes hok id _ hlen hid f1), gotF_page hp hid2 hs]
    simp
  · rw [pread_of hjd f2 rfl, pread_of hjd hd rfl, pwrite_other hok id jd _ hlen hid hjd (Ne.symm hne) f1]
theorem zero_pread : preadF (D.zero 10) 10 0 = (.zero, 14) := by
  have h : ((D.zero 10).now.drop (64 * (2 + 4 * 0))).take 256 = List.replicate 256 0 := by
    show (List.drop _ (List.replicate (64 * 10) 0)).take 256 = _
    rw [List.drop_replicate, List.take_replicate]; rfl
  have hc : gotF (List.replicate 256 0) = (.zero, 14) := by
    unfold gotF
    rw [if_neg (by rw [List.length_replicate]; exact fun h => h rfl), if_pos (by decide +kernel)]
  have := pread_of (d := D.zero 10) (n := 10) (id := 0) (by decide) rfl h
  rw [hc] at this
  exact this
end Go.Proofs.Ytmofbgcanehdoaa.Pg
