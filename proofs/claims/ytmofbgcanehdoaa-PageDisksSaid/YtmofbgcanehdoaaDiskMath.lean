/- a disk's sectors, in plain lists of bytes. -/
import Derived.Test.YtmofbgcanehdoaaKit
namespace Go.Proofs.Ytmofbgcanehdoaa.Dk
open Go.RowKit

/-- a sector's bytes, out of all bytes one behind the other -/
def sec (F : List UInt8) (i : Nat) : List UInt8 := (F.drop (64 * i)).take 64
/-- bytes laid from a place on -/
def lay (F : List UInt8) (o : Nat) (c : List UInt8) : List UInt8 := F.take o ++ c ++ F.drop (o + c.length)
/-- a sector's new bytes -/
def setSec (F : List UInt8) (i : Nat) (c : List UInt8) : List UInt8 := lay F (64 * i) c
theorem lay_length {F : List UInt8} {o : Nat} {c : List UInt8} (h : o + c.length ≤ F.length) : (lay F o c).length = F.length := by
  simp [lay]; omega
theorem bvs_lay (F : List UInt8) (o : Nat) (c : List UInt8) : putAt (bvs F) o (bvs c) = bvs (lay F o c) := by
  simp [putAt, lay, bvs]
theorem sec_length {F : List UInt8} {n i : Nat} (hF : F.length = 64 * n) (hi : i < n) : (sec F i).length = 64 := by
  simp [sec]; omega
theorem lay_get {F : List UInt8} {o : Nat} {c : List UInt8} (h : o + c.length ≤ F.length) (j : Nat) : (lay F o c)[j]? = if o ≤ j ∧ j < o + c.length then c[j - o]? else F[j]? := by
  unfold lay
  by_cases h1 : j < o
  · rw [if_neg (by omega), List.append_assoc, List.getElem?_append_left (by simp; omega), List.getElem?_take_of_lt h1]
  · have e : (F.take o).length = o := by simp; omega
    by_cases h2 : j < o + c.length
    · rw [if_pos ⟨by omega, h2⟩, List.append_assoc, List.getElem?_append_right (by omega), e, List.getElem?_append_left (by omega)]
    · rw [if_neg (by omega), List.getElem?_append_right (by simp; omega), List.getElem?_drop]
      congr 1
      simp; omega
theorem sec_get (F : List UInt8) (i j : Nat) : (sec F i)[j]? = if j < 64 then F[64 * i + j]? else none := by
  unfold sec
  by_cases h : j < 64
  · rw [if_pos h, List.getElem?_take_of_lt h, List.getElem?_drop]
  · rw [if_neg h, List.getElem?_eq_none (by simp; omega)]
theorem sec_set {F c : List UInt8} {n i k : Nat} (hF : F.length = 64 * n) (hi : i < n) (hc : c.length = 64) (_hk : k < n) : sec (setSec F i c) k = if i = k then c else sec F k := by
  apply List.ext_getElem?
  intro j
  rw [sec_get]
  unfold setSec
  rw [lay_get (by omega)]
  by_cases hj : j < 64
  · rw [if_pos hj, hc]
    by_cases e : i = k
    · subst e
      rw [if_pos ⟨by omega, by omega⟩, if_pos rfl]
      congr 1; omega
    · rw [if_neg (by omega), if_neg e, sec_get, if_pos hj]
  · rw [if_neg hj]
    split
    · rw [List.getElem?_eq_none (by omega)]
    · rw [sec_get, if_neg hj]
/-- what a sector holds behind a write: a text, cut at 64, and bytes 0 behind it -/
def fillF (s : List UInt8) : List UInt8 := s.take 64 ++ List.replicate (64 - s.length) 0
theorem fillF_length (s : List UInt8) : (fillF s).length = 64 := by simp [fillF]; omega
theorem zero_then (F s : List UInt8) {n i : Nat} (hF : F.length = 64 * n) (hi : i < n) : lay (setSec F i (List.replicate 64 0)) (64 * i) (s.take 64) = setSec F i (fillF s) := by
  have h0 : (setSec F i (List.replicate 64 0)).length = F.length := lay_length (by simp; omega)
  apply List.ext_getElem?
  intro j
  have hz := fillF_length s
  rw [lay_get (by rw [h0]; simp; omega)]
  unfold setSec
  rw [lay_get (by simp; omega), lay_get (by omega), hz]
  simp only [List.length_take, List.length_replicate]
  by_cases h1 : 64 * i ≤ j ∧ j < 64 * i + min 64 s.length
  · rw [if_pos h1, if_pos (by omega), fillF, List.getElem?_append_left (by simp; omega)]
  · rw [if_neg h1]
    by_cases h2 : 64 * i ≤ j ∧ j < 64 * i + 64
    · rw [if_pos h2, if_pos h2, fillF, List.getElem?_append_right (by simp; omega), List.getElem?_replicate, List.getElem?_replicate]
      simp only [List.length_take]
      rw [if_pos (by omega), if_pos (by omega)]
    · rw [if_neg h2, if_neg h2]
/-- the end of a sector's old bytes over its new ones -/
theorem torn_lay (F G : List UInt8) {n i k : Nat} (hF : F.length = 64 * n) (hG : G.length = 64 * n) (hi : i < n) (hk : k ≤ 64) :
    lay F (64 * i + k) ((sec G i).drop k) = setSec F i ((sec F i).take k ++ (sec G i).drop k) := by
  have e1 := sec_length hF hi
  have e2 := sec_length hG hi
  apply List.ext_getElem?
  intro j
  unfold setSec
  rw [lay_get (by simp [e2]; omega), lay_get (by simp [e1, e2]; omega)]
  simp only [List.length_append, List.length_take, List.length_drop, e1, e2]
  by_cases h1 : 64 * i + k ≤ j ∧ j < 64 * i + k + (64 - k)
  · rw [if_pos h1, if_pos (by omega), List.getElem?_append_right (by simp; omega)]
    congr 1
    simp; omega
  · rw [if_neg h1]
    by_cases h2 : 64 * i ≤ j ∧ j < 64 * i + (min k 64 + (64 - k))
    · rw [if_pos h2, List.getElem?_append_left (by simp [e1]; omega), List.getElem?_take_of_lt (by omega), sec_get, if_pos (by omega)]
      congr 1; omega
    · rw [if_neg h2]

/-- a disk's content -/
structure D where
  now : List UInt8
  old : List UInt8
  loose : List Bool
  armed : Int
  calls : Int
  down : Bool
/-- n sectors, and what counts is no great number -/
structure D.Ok (d : D) (n : Nat) : Prop where
  now : d.now.length = 64 * n
  old : d.old.length = 64 * n
  loose : d.loose.length = n
  small : n ≤ 4096
  armed : 0 ≤ d.armed
  calls : 0 ≤ d.calls
def D.worksF (d : D) : Int := if d.down then 13 else 0
def D.atF (d : D) (n : Nat) (i : Int) : Int := if d.down then 13 else if 0 ≤ i ∧ i < n then 0 else 3
def D.countF (d : D) : D × Int :=
  if d.armed = 0 then ({ d with calls := d.calls + 1 }, 0)
  else if d.armed = 1 then ({ d with calls := d.calls + 1, armed := 0, down := true }, 13)
  else ({ d with calls := d.calls + 1, armed := d.armed - 1, down := false }, 0)
/-- a sector is about to be written: it is loose, and its old bytes are kept -/
def D.keepF (d : D) (i : Nat) : D := if d.loose.getD i false then d else { d with old := setSec d.old i (sec d.now i), loose := d.loose.set i true }
def D.putF (d : D) (i : Nat) (s : List UInt8) : D := { d.keepF i with now := setSec d.now i (fillF s) }
def D.writeF (d : D) (n : Nat) (i : Int) (s : List UInt8) : D × Int :=
  if d.atF n i = 0 then (d.putF i.toNat s).countF else (d, d.atF n i)
def D.syncF (d : D) : D × Int :=
  if d.down then (d, 13) else if d.countF.2 = 0 then ({ d.countF.1 with loose := List.replicate d.loose.length false }, 0) else d.countF
def D.armF (d : D) (n : Int) : D × Int := if d.down then (d, 13) else if n < 1 then (d, 2) else ({ d with armed := n }, 0)
theorem D.Ok.count {d : D} {n : Nat} (h : d.Ok n) : (d.countF).1.Ok n := by
  have := h.calls
  have := h.armed
  unfold D.countF
  split
  · exact ⟨h.now, h.old, h.loose, h.small, h.armed, by show 0 ≤ d.calls + 1; omega⟩
  · split
    · exact ⟨h.now, h.old, h.loose, h.small, Int.le_refl 0, by show 0 ≤ d.calls + 1; omega⟩
    · exact ⟨h.now, h.old, h.loose, h.small, by show 0 ≤ d.armed - 1; omega, by show 0 ≤ d.calls + 1; omega⟩
theorem D.Ok.keep {d : D} {n : Nat} (h : d.Ok n) (i : Nat) (hi : i < n) : (d.keepF i).Ok n := by
  unfold D.keepF
  split
  · exact h
  · have e := sec_length h.now hi
    have := h.old
    exact ⟨h.now, by show (setSec d.old i (sec d.now i)).length = _; unfold setSec; rw [lay_length (by omega)]; exact h.old, by show (d.loose.set i true).length = _; rw [List.length_set]; exact h.loose, h.small, h.armed, h.calls⟩
theorem D.keep_now (d : D) (i : Nat) : (d.keepF i).now = d.now := by unfold D.keepF; split <;> rfl
theorem D.Ok.put {d : D} {n : Nat} (h : d.Ok n) (i : Nat) (s : List UInt8) (hi : i < n) : (d.putF i s).Ok n := by
  have hk := h.keep i hi
  have e := fillF_length s
  have := h.now
  exact ⟨by show (setSec d.now i (fillF s)).length = _; unfold setSec; rw [lay_length (by omega)]; exact h.now, hk.old, hk.loose, hk.small, hk.armed, hk.calls⟩
theorem D.Ok.write {d : D} {n : Nat} (h : d.Ok n) (i : Int) (s : List UInt8) : (d.writeF n i s).1.Ok n := by
  unfold D.writeF
  split
  · rename_i ha
    have hi : 0 ≤ i ∧ i < n := by
      unfold D.atF at ha
      split at ha
      · cases ha
      · split at ha
        · assumption
        · cases ha
    exact (h.put i.toNat s (by omega)).count
  · exact h
theorem D.Ok.sync {d : D} {n : Nat} (h : d.Ok n) : (d.syncF).1.Ok n := by
  have hc := h.count
  unfold D.syncF
  split
  · exact h
  · split
    · exact ⟨hc.now, hc.old, by show (List.replicate d.loose.length false).length = n; simp; exact h.loose, hc.small, hc.armed, hc.calls⟩
    · exact hc
theorem D.Ok.arm {d : D} {n : Nat} (h : d.Ok n) (k : Int) : (d.armF k).1.Ok n := by
  unfold D.armF
  split
  · exact h
  · split
    · exact h
    · exact ⟨h.now, h.old, h.loose, h.small, by show 0 ≤ k; omega, h.calls⟩
end Go.Proofs.Ytmofbgcanehdoaa.Dk
