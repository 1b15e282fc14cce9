/-
 The plain law of the check: bit by bit and four bits at a time come to one; a turned bit is seen. No program in sight.
-/
import Derived.Test.YtbelcgjbhpjnpaaGreatKa
import Derived.Deep.QuietTactic
import Derived.BigQuiet
set_option linter.all false
set_option linter.unusedVariables false
set_option linter.unusedSimpArgs false
set_option maxRecDepth 100000
namespace Go.Proofs.YtbelcgjbhpjnpaaGreat.Crc

def poly : Nat := 2197175160
def tab : List Nat := [0x00000000, 0x105ec76f, 0x20bd8ede, 0x30e349b1, 0x417b1dbc, 0x5125dad3, 0x61c69362, 0x7198540d,
 0x82f63b78, 0x92a8fc17, 0xa24bb5a6, 0xb21572c9, 0xc38d26c4, 0xd3d3e1ab, 0xe330a81a, 0xf36e6f75]
/-- four bits that fall out -/
def nib (r : Nat) : Nat := r / 16 ^^^ tab.getD (r % 16) 0
def takeF (r c : Nat) : Nat := nib (nib (r ^^^ c))
def moreF (r : Nat) (l : List UInt8) : Nat := l.foldl (fun r c => takeF r c.toNat) r
def sumF (l : List UInt8) : Nat := 4294967295 - moreF 4294967295 l

/-- one bit that falls out -/
def z (r : Nat) : Nat := r / 2 ^^^ if r % 2 = 1 then poly else 0
/-- one bit as the document has it -/
def bitStep (r b : Nat) : Nat := if r % 2 = b then r / 2 else r / 2 ^^^ poly

theorem xor_div_two (a b : Nat) : (a ^^^ b) / 2 = a / 2 ^^^ b / 2 := Nat.xor_div_two
theorem xor_mod_two (a b : Nat) : (a ^^^ b) % 2 = (a + b) % 2 := by
 have h : (a ^^^ b) % 2 ^ 1 = (a % 2 ^ 1) ^^^ (b % 2 ^ 1) := Nat.xor_mod_two_pow
 simp only [Nat.pow_one] at h
 rw [h]
 rcases Nat.mod_two_eq_zero_or_one a with ha | ha <;> rcases Nat.mod_two_eq_zero_or_one b with hb | hb <;> rw [ha, hb] <;> simp <;> omega
theorem xor_cancel_right {a b c : Nat} (h : a ^^^ c = b ^^^ c) : a = b := by
 have := congrArg (· ^^^ c) h
 simpa [Nat.xor_assoc] using this
theorem xor_cancel_left {a b c : Nat} (h : c ^^^ a = c ^^^ b) : a = b := xor_cancel_right (c := c) (by rw [Nat.xor_comm a, Nat.xor_comm b]; exact h)

theorem z_xor (a b : Nat) : z (a ^^^ b) = z a ^^^ z b := by
 unfold z
 rw [xor_div_two, xor_mod_two]
 rcases Nat.mod_two_eq_zero_or_one a with ha | ha <;> rcases Nat.mod_two_eq_zero_or_one b with hb | hb
 ·rw [if_neg (by omega), if_neg (by omega), if_neg (by omega)]; simp
 ·rw [if_pos (by omega), if_neg (by omega), if_pos (by omega)]; simp [Nat.xor_assoc]
 ·rw [if_pos (by omega), if_pos (by omega), if_neg (by omega), Nat.xor_zero]; ac_rfl
 ·rw [if_neg (by omega), if_pos (by omega), if_pos (by omega)]
  simp only [Nat.xor_zero]
  have : a / 2 ^^^ poly ^^^ (b / 2 ^^^ poly) = a / 2 ^^^ b / 2 ^^^ (poly ^^^ poly) := by ac_rfl
  rw [this]; simp

theorem z_double (q : Nat) : z (2 * q) = q := by
 unfold z
 rw [if_neg (by omega)]; simp

theorem split16 (r : Nat) : r = (2 * (2 * (2 * (2 * (r / 16))))) ^^^ (r % 16) := by
 have h : (2 * (2 * (2 * (2 * (r / 16))))) = 2 ^ 4 * (r / 16) := by omega
 rw [h]
 have : r % 16 < 2 ^ 4 := by omega
 rw [Nat.xor_comm]
 have e : r % 16 ^^^ 2 ^ 4 * (r / 16) = 2 ^ 4 * (r / 16) + r % 16 := by
  apply Nat.eq_of_testBit_eq
  intro i
  rw [Nat.testBit_xor, Nat.testBit_two_pow_mul, Nat.testBit_two_pow_mul_add _ this]
  by_cases h4 : i < 4
  ·simp [h4, Nat.not_le.2 h4]
  ·have : (r % 16).testBit i = false := Nat.testBit_lt_two_pow (Nat.lt_of_lt_of_le this (Nat.pow_le_pow_right (by decide) (by omega)))
   simp [h4, this, Nat.not_lt.1 h4]
 rw [e]; omega

theorem z4_small : ∀ n, n < 16 → z (z (z (z n))) = tab.getD n 0 := by decide

theorem z4_nib (r : Nat) : z (z (z (z r))) = nib r := by
 conv => lhs; rw [split16 r]
 simp only [z_xor, z_double]
 rw [z4_small _ (Nat.mod_lt _ (by decide))]
 rfl

theorem bitStep_z (r c : Nat) : bitStep r (c % 2) = z (r ^^^ c) ^^^ (c / 2) := by
 have h2 : r / 2 ^^^ c / 2 ^^^ c / 2 = r / 2 := by rw [Nat.xor_assoc]; simp
 unfold bitStep z
 rw [xor_div_two, xor_mod_two]
 by_cases h : r % 2 = c % 2
 ·rw [if_pos h, if_neg (by omega)]; simp [h2]
 ·rw [if_neg h, if_pos (by omega)]
  have : r / 2 ^^^ c / 2 ^^^ poly ^^^ c / 2 = r / 2 ^^^ poly ^^^ (c / 2 ^^^ c / 2) := by ac_rfl
  rw [this]; simp

theorem bits_step (r d c : Nat) (h : r = d ^^^ c) : bitStep r (c % 2) = z d ^^^ (c / 2) := by
 rw [bitStep_z, h]
 have : d ^^^ c ^^^ c = d := by rw [Nat.xor_assoc]; simp
 rw [this]

/-- eight bits of a byte -/
def byteStep (r c : Nat) : Nat :=
 bitStep (bitStep (bitStep (bitStep (bitStep (bitStep (bitStep (bitStep r (c % 2)) (c / 2 % 2)) (c / 4 % 2)) (c / 8 % 2)) (c / 16 % 2)) (c / 32 % 2)) (c / 64 % 2)) (c / 128 % 2)

theorem byteStep_eq (r c : Nat) (hc : c < 256) : byteStep r c = takeF r c := by
 have h0 : r = (r ^^^ c) ^^^ c := by rw [Nat.xor_assoc]; simp
 have h1 := bits_step r (r ^^^ c) c h0
 have h2 := bits_step _ _ _ h1
 have h3 := bits_step _ _ _ h2
 have h4 := bits_step _ _ _ h3
 have h5 := bits_step _ _ _ h4
 have h6 := bits_step _ _ _ h5
 have h7 := bits_step _ _ _ h6
 have h8 := bits_step _ _ _ h7
 have e2 : c / 2 / 2 = c / 4 := by omega
 have e3 : c / 4 / 2 = c / 8 := by omega
 have e4 : c / 8 / 2 = c / 16 := by omega
 have e5 : c / 16 / 2 = c / 32 := by omega
 have e6 : c / 32 / 2 = c / 64 := by omega
 have e7 : c / 64 / 2 = c / 128 := by omega
 have e8 : c / 128 / 2 = 0 := by omega
 simp only [e2, e3, e4, e5, e6, e7, e8, Nat.xor_zero] at h8
 unfold byteStep takeF
 rw [h8, z4_nib, z4_nib]

theorem poly_lt : poly < 2 ^ 32 := by decide
theorem z_lt {r : Nat} (h : r < 4294967296) : z r < 4294967296 := by
 unfold z
 have h1 : r / 2 < 2 ^ 32 := by omega
 split
 ·exact Nat.xor_lt_two_pow h1 poly_lt
 ·simpa using h1
theorem nib_lt {r : Nat} (h : r < 4294967296) : nib r < 4294967296 := by
 rw [← z4_nib]; exact z_lt (z_lt (z_lt (z_lt h)))
theorem xor_byte_lt {r c : Nat} (h : r < 4294967296) (hc : c < 256) : r ^^^ c < 4294967296 :=
 Nat.xor_lt_two_pow (n := 32) h (by omega)
theorem takeF_lt {r c : Nat} (h : r < 4294967296) (hc : c < 256) : takeF r c < 4294967296 := nib_lt (nib_lt (xor_byte_lt h hc))
theorem moreF_lt (l : List UInt8) : ∀ {r : Nat}, r < 4294967296 → moreF r l < 4294967296 := by
 induction l with
 | nil => intro r h; exact h
 | cons c l ih => intro r h; exact ih (takeF_lt h (by have := c.toNat_lt; omega))
theorem sumF_lt (l : List UInt8) : sumF l < 4294967296 := by unfold sumF; omega
theorem moreF_nil (r : Nat) : moreF r [] = r := rfl
theorem moreF_append (r : Nat) (l m : List UInt8) : moreF r (l ++ m) = moreF (moreF r l) m := by simp [moreF]
theorem moreF_snoc (r : Nat) (l : List UInt8) (c : UInt8) : moreF r (l ++ [c]) = takeF (moreF r l) c.toNat := by simp [moreF]

/-! injective -/
theorem z_top {r : Nat} (h : r < 4294967296) : z r / 2147483648 = r % 2 := by
 unfold z
 have h1 : r / 2 < 2 ^ 31 := by omega
 rcases Nat.mod_two_eq_zero_or_one r with e | e
 ·rw [if_neg (by omega), e]; simp; omega
 ·rw [if_pos e, e]
  have hb : (r / 2 ^^^ poly).testBit 31 = true := by
   rw [Nat.testBit_xor, Nat.testBit_lt_two_pow h1]; decide
  have hl : r / 2 ^^^ poly < 2 ^ 32 := Nat.xor_lt_two_pow (by omega) poly_lt
  have := Nat.ge_two_pow_of_testBit hb
  omega
theorem z_inj {a b : Nat} (ha : a < 4294967296) (hb : b < 4294967296) (h : z a = z b) : a = b := by
 have hp : a % 2 = b % 2 := by rw [← z_top ha, ← z_top hb, h]
 have hd : a / 2 = b / 2 := by
  unfold z at h
  rw [hp] at h
  exact xor_cancel_right h
 omega
theorem nib_inj {a b : Nat} (ha : a < 4294967296) (hb : b < 4294967296) (h : nib a = nib b) : a = b := by
 rw [← z4_nib, ← z4_nib] at h
 exact z_inj ha hb (z_inj (z_lt ha) (z_lt hb) (z_inj (z_lt (z_lt ha)) (z_lt (z_lt hb)) (z_inj (z_lt (z_lt (z_lt ha))) (z_lt (z_lt (z_lt hb))) h)))
theorem takeF_inj_reg {a b c : Nat} (ha : a < 4294967296) (hb : b < 4294967296) (hc : c < 256) (h : takeF a c = takeF b c) : a = b := by
 have := nib_inj (xor_byte_lt ha hc) (xor_byte_lt hb hc) (nib_inj (nib_lt (xor_byte_lt ha hc)) (nib_lt (xor_byte_lt hb hc)) h)
 exact xor_cancel_right this
theorem takeF_inj_byte {a c d : Nat} (ha : a < 4294967296) (hc : c < 256) (hd : d < 256) (h : takeF a c = takeF a d) : c = d := by
 have := nib_inj (xor_byte_lt ha hc) (xor_byte_lt ha hd) (nib_inj (nib_lt (xor_byte_lt ha hc)) (nib_lt (xor_byte_lt ha hd)) h)
 exact xor_cancel_left this
theorem moreF_inj (l : List UInt8) : ∀ {a b : Nat}, a < 4294967296 → b < 4294967296 → moreF a l = moreF b l → a = b := by
 induction l with
 | nil => intro a b _ _ h; exact h
 | cons c l ih =>
  intro a b ha hb h
  have hc : c.toNat < 256 := by have := c.toNat_lt; omega
  exact takeF_inj_reg ha hb hc (ih (takeF_lt ha hc) (takeF_lt hb hc) h)
/-- one byte that is another gives another check -/
theorem sumF_set (l : List UInt8) (i : Nat) (hi : i < l.length) (d : UInt8) (hd : d ≠ l[i]) : sumF (l.set i d) ≠ sumF l := by
 intro h
 have h1 : moreF 4294967295 (l.set i d) = moreF 4294967295 l := by
  have a := moreF_lt (l.set i d) (r := 4294967295) (by omega)
  have b := moreF_lt l (r := 4294967295) (by omega)
  unfold sumF at h; omega
 have e1 : l = l.take i ++ l[i] :: l.drop (i + 1) := by simp
 have e2 : l.set i d = l.take i ++ d :: l.drop (i + 1) := List.set_eq_take_append_cons_drop .. ▸ by simp [hi]
 rw [e2] at h1
 conv at h1 => rhs; rw [e1]
 rw [moreF_append, moreF_append] at h1
 have hr := moreF_lt (l.take i) (r := 4294967295) (by omega)
 have q1 : d.toNat < 256 := by have := d.toNat_lt; omega
 have q2 : l[i].toNat < 256 := by have := l[i].toNat_lt; omega
 have h2 := moreF_inj _ (takeF_lt hr q1) (takeF_lt hr q2) h1
 exact hd (UInt8.toNat_inj.1 (takeF_inj_byte hr q1 q2 h2))

/-! the check's bytes, the lowest first -/
def fourL (n : Nat) : List UInt8 := [UInt8.ofNat (n % 256), UInt8.ofNat (n / 256 % 256), UInt8.ofNat (n / 65536 % 256), UInt8.ofNat (n / 16777216 % 256)]
theorem fourL_length (n : Nat) : (fourL n).length = 4 := rfl
theorem fourL_inj {a b : Nat} (ha : a < 4294967296) (hb : b < 4294967296) (h : fourL a = fourL b) : a = b := by
 simp only [fourL, List.cons.injEq, and_true] at h
 obtain ⟨h0, h1, h2, h3⟩ := h
 have t : ∀ n : Nat, (UInt8.ofNat (n % 256)).toNat = n % 256 := fun n => by simp
 have h0' := congrArg UInt8.toNat h0
 have h1' := congrArg UInt8.toNat h1
 have h2' := congrArg UInt8.toNat h2
 have h3' := congrArg UInt8.toNat h3
 rw [t, t] at h0' h1' h2' h3'
 omega
def layF (l : List UInt8) : List UInt8 := fourL (sumF l) ++ l
end Go.Proofs.YtbelcgjbhpjnpaaGreat.Crc

/- crc.take: a byte, four bits at a time. -/
namespace Go.Proofs.YtbelcgjbhpjnpaaGreat.Crc
open Go.RowKit

def tabObj : Obj := .cells #[Value.int IntKind.u32 0, Value.int IntKind.u32 274646895, Value.int IntKind.u32 549293790,
     Value.int IntKind.u32 820201905, Value.int IntKind.u32 1098587580, Value.int IntKind.u32 1361435347,
     Value.int IntKind.u32 1640403810, Value.int IntKind.u32 1905808397, Value.int IntKind.u32 2197175160,
     Value.int IntKind.u32 2460548119, Value.int IntKind.u32 2722870694, Value.int IntKind.u32 2987750089,
     Value.int IntKind.u32 3280807620, Value.int IntKind.u32 3553878443, Value.int IntKind.u32 3811616794,
     Value.int IntKind.u32 4084100981] 231 (0, 0)
theorem tab_small : ∀ n, n < 16 → (#[Value.int IntKind.u32 0, Value.int IntKind.u32 274646895, Value.int IntKind.u32 549293790,
     Value.int IntKind.u32 820201905, Value.int IntKind.u32 1098587580, Value.int IntKind.u32 1361435347,
     Value.int IntKind.u32 1640403810, Value.int IntKind.u32 1905808397, Value.int IntKind.u32 2197175160,
     Value.int IntKind.u32 2460548119, Value.int IntKind.u32 2722870694, Value.int IntKind.u32 2987750089,
     Value.int IntKind.u32 3280807620, Value.int IntKind.u32 3553878443, Value.int IntKind.u32 3811616794,
     Value.int IntKind.u32 4084100981] : Array Value)[n]? = some (.int .u32 (tab.getD n 0 : Nat)) := by
 intro n hn
 have h : n = 0 ∨ n = 1 ∨ n = 2 ∨ n = 3 ∨ n = 4 ∨ n = 5 ∨ n = 6 ∨ n = 7 ∨ n = 8 ∨ n = 9 ∨ n = 10 ∨ n = 11 ∨ n = 12 ∨ n = 13 ∨ n = 14 ∨ n = 15 := by omega
 rcases h with rfl | rfl | rfl | rfl | rfl | rfl | rfl | rfl | rfl | rfl | rfl | rfl | rfl | rfl | rfl | rfl <;> rfl
theorem tab_cell (w : World) (n : Nat) (hn : n < 16) : (w.alloc tabObj).cell? ⟨w.heap.size, n, none⟩ = some (.int .u32 (tab.getD n 0 : Nat)) := by
 have h : (w.alloc tabObj).heap[w.heap.size]? = some tabObj := heap_alloc_new w _
 exact (cell_of_row _ _ _ _ _ _ h).trans (tab_small n hn)

def roundF (r c : Nat) (k : Nat) : Nat := if k = 0 then r ^^^ c else if k = 1 then nib (r ^^^ c) else takeF r c
theorem roundF_lt {r c : Nat} (hr : r < 4294967296) (hc : c < 256) (k : Nat) : roundF r c k < 4294967296 := by
 unfold roundF
 have := xor_byte_lt hr hc
 split
 ·exact this
 ·split
  ·exact nib_lt this
  ·exact takeF_lt hr hc
theorem roundF_succ (r c k : Nat) (hk : k < 2) : roundF r c (k + 1) = nib (roundF r c k) := by
 unfold roundF
 have h : k = 0 ∨ k = 1 := by omega
 rcases h with rfl | rfl <;> simp [takeF]
theorem and15 (r : Nat) (h : r < 4294967296) : bits .and .u32 (r : Int) 15 = ((r % 16 : Nat) : Int) := by
 have := u32_and_nat r 15 h (by omega)
 rw [show ((15 : Nat) : Int) = 15 from rfl] at this
 rw [this]
 congr 1
 exact Nat.and_two_pow_sub_one_eq_mod r 4

set_option maxHeartbeats 800000 in
theorem take_any (r c : Nat) (w : World) (hr : r < 4294967296) (hc : c < 256) :
  Calls Tryz.prog 214 #[.int .u32 r, .int .u8 c] w fun e w' => e = .returned (.int .u32 (takeF r c)) ∧ Below w.heap.size w w' := by
 have hx := u32_xor_nat r c hr (by omega)
 go_enter Tryz.func214, Tryz.ntmps214
 go_wp2
 clear hx
 have HB : Below w.heap.size w (w.alloc tabObj) := (Below.refl _ _).alloc (Nat.le_refl _) _
 have hc' := tab_cell w
 change Code.wp _ _ _ _ (w.alloc tabObj)
 generalize w.alloc tabObj = wr at HB hc' ⊢
 go_loop [0, 11] (fun reg i => ∃ k : Nat, k ≤ 2 ∧ i = .int .i64 k ∧ reg = .int .u32 (roundF r c k : Nat)) (fun _ i => 2 - (intOf i).toNat)
 case atStart => exact ⟨0, by omega, rfl, rfl⟩
 case round =>
  obtain ⟨k, hk, rfl, rfl⟩ := hrel
  have hlt := roundF_lt hr hc k
  by_cases h : k < 2
  ·have HS := Lib.hid (roundF_succ r c k h)
   generalize roundF r c k = R at *
   have e1 := and15 R hlt
   have e2 := hc' (R % 16) (by omega)
   have e3 : bits .xor .u32 ((R / 16 : Nat) : Int) ((tab.getD (R % 16) 0 : Nat) : Int) = ((nib R : Nat) : Int) := by
    have : tab.getD (R % 16) 0 < 4294967296 := by
     have : ∀ n, n < 16 → tab.getD n 0 < 4294967296 := by decide
     exact this _ (by omega)
    rw [u32_xor_nat _ _ (by omega) this]; rfl
   clear hc'
   go_wp2
   go_round
   case rel => exact ⟨k + 1, by omega, by go_num, by rw [HS.out, ← e3]; simp⟩
   case measure => simp [intOf]; omega
  ·go_wp2
   go_ret
   have : k = 2 := by omega
   subst this
   exact ⟨rfl, HB⟩
end Go.Proofs.YtbelcgjbhpjnpaaGreat.Crc

/- crc: More, Sum, four, Lay, Cut by contracts. -/
namespace Go.Proofs.YtbelcgjbhpjnpaaGreat.Crc
open Go.RowKit

theorem not_u32 (r : Nat) (hr : r < 4294967296) : bits BinOp.xor IntKind.u32 IntKind.u32.max (r : Int) = ((4294967295 - r : Nat) : Int) := by
 have h : IntKind.u32.max = ((4294967295 : Nat) : Int) := by rfl
 rw [h, u32_xor_nat _ _ (by omega) hr]
 congr 1
 have h2 := Nat.xor_comm 4294967295 r
 rw [h2]
 have : r ^^^ (2 ^ 32 - 1) = 2 ^ 32 - 1 - r := by
  apply Nat.eq_of_testBit_eq
  intro i
  rw [Nat.testBit_xor, Nat.testBit_two_pow_sub_one]
  have h3 := Nat.testBit_two_pow_sub_succ (x := r) (n := 32) (by omega) i
  rw [show 2 ^ 32 - 1 - r = 2 ^ 32 - (r + 1) from by omega, h3]
  by_cases hi : i < 32
  ·simp [hi]
  ·simp [hi]
   exact Nat.testBit_lt_two_pow (Nat.lt_of_lt_of_le (show r < 2 ^ 32 by omega) (Nat.pow_le_pow_right (by decide) (by omega)))
 exact this

theorem take_snoc (s : ByteArray) (k : Nat) (h : k < s.size) : s.data.toList.take (k + 1) = s.data.toList.take k ++ [s[k]] := by
 rw [List.take_succ_eq_append_getElem (by simpa using h)]; rfl

set_option maxHeartbeats 400000 in
theorem more_any (r : Nat) (s : ByteArray) (w : World) (hr : r < 4294967296) (hs : s.size ≤ maxLen) :
  Calls Tryz.prog 210 #[.int .u32 r, .string s] w fun e w' => e = .returned (.int .u32 ((4294967295 - moreF (4294967295 - r) s.data.toList : Nat) : Int)) ∧ Below w.heap.size w w' := by
 have hx := not_u32 r hr
 have hi0 : moreF (4294967295 - r) [] < 4294967296 := by show 4294967295 - r < _; omega
 unfold maxLen at hs
 go_enter Tryz.func210, Tryz.ntmps210
 go_wp2
 clear hx
 go_loopw [5, 6, 11] (fun reg _ i wr => ∃ k : Nat, k ≤ s.size ∧ i = .int .i64 k ∧ reg = .int .u32 ((moreF (4294967295 - r) (s.data.toList.take k) : Nat) : Int) ∧ Below w.heap.size w wr) (fun _ _ i _ => s.size - (intOf i).toNat)
 case atStart => exact ⟨0, Nat.zero_le _, rfl, rfl, Below.refl _ _⟩
 case round =>
  obtain ⟨k, hk, rfl, rfl, hb⟩ := hrel
  have hlt := moreF_lt (s.data.toList.take k) hi0
  simp only [moreF_nil] at hlt
  by_cases h : k < s.size
  ·have HS := Lib.hid (show moreF (4294967295 - r) (s.data.toList.take (k + 1)) = takeF (moreF (4294967295 - r) (s.data.toList.take k)) s[k].toNat from by rw [take_snoc s k h, moreF_snoc])
   go_wp2_with (go_at_call 214; refine (take_any _ _ _ hlt (by have := s[k].toNat_lt; omega)).mono ?_; rintro e w1 ⟨rfl, hb1⟩)
   go_roundw
   case rel => exact ⟨k + 1, by omega, by go_num, by rw [HS.out], hb.trans (hb1.mono hb.size)⟩
   case measure => simp [intOf]; omega
  ·have hx2 := not_u32 _ hlt
   have ht : s.data.toList.take k = s.data.toList := List.take_of_length_le (by simp; omega)
   rw [ht] at hx2
   rw [ht]
   go_wp2
   go_ret
   exact ⟨rfl, hb⟩
set_option maxHeartbeats 400000 in
theorem four_any (n : Nat) (w : World) (hn : n < 4294967296) :
  Calls Tryz.prog 198 #[.int .u32 n] w fun e w' => e = .returned (.agg #[.int .u8 (n % 256 : Nat), .int .u8 (n / 256 % 256 : Nat), .int .u8 (n / 65536 % 256 : Nat), .int .u8 (n / 16777216 % 256 : Nat)]) ∧ Below w.heap.size w w' := by
 go_enter Tryz.func198, Tryz.ntmps198
 go_wp2
 refine wp_loop_rounds 5 ?_
 rw [rounds_succ]
 go_wp2
 rw [rounds_succ]
 go_wp2
 rw [rounds_succ]
 go_wp2
 rw [rounds_succ]
 go_wp2
 rw [rounds_succ]
 go_wp2
 refine bodyPost_ret (v := .agg #[.int .u8 (n % 256 : Nat), .int .u8 (n / 256 % 256 : Nat), .int .u8 (n / 65536 % 256 : Nat), .int .u8 (n / 16777216 % 256 : Nat)]) ?_ rfl ⟨rfl, ?_⟩
 ·simp [results, Tryz.results198, go_sem]
  omega
 ·exact ((Below.refl _ _).alloc (Nat.le_refl _) _).alloc (by simp) _

theorem sum_any (s : ByteArray) (w : World) (hs : s.size ≤ maxLen) :
  Calls Tryz.prog 199 #[.string s] w fun e w' => e = .returned (.int .u32 (sumF s.data.toList : Nat)) ∧ Below w.heap.size w w' := by
 go_enter Tryz.func199, Tryz.ntmps199
 go_wp2_with (go_at_call 210; refine (more_any 0 _ _ (by omega) hs).mono ?_; rintro e w1 ⟨rfl, hb1⟩)
 go_ret
 exact ⟨rfl, hb1⟩

end Go.Proofs.YtbelcgjbhpjnpaaGreat.Crc

/- crc: Lay by its contract. -/
namespace Go.Proofs.YtbelcgjbhpjnpaaGreat.Crc
open Go.RowKit
theorem info_u8 : (Tryz.prog.info? 5).map (fun i => (i.zero, i.size, i.bytes)) = some (some (.int .u8 0), 1, 1) := by kernel_rfl
theorem size_u8 : (Tryz.prog.info? 5).map (·.size) = some 1 := by kernel_rfl

theorem make_bytes (n : Int) (h0 : 0 ≤ n) (h1 : n ≤ 140737488355328) (w : World) :
  (Instr.makeSlice 141 (.int .i64 n) (.int .i64 n)).run Tryz.prog w = .ok (.slice (some ⟨w.heap.size, 0, none⟩) n.toNat n.toNat) (w.alloc (.cells (madeCells #[.int .u8 0] n.toNat) 5)) := by
 obtain ⟨i0, hi, hz0, hz1, hz2⟩ := info_parts info_u8
 have h := run_make (P := Tryz.prog) w 141 5 i0 (.int .u8 0) Tryz.underlying141 hi hz0 .i64 .i64 n n h0 (Int.le_refl _) (by rw [hz2]; omega) (by omega)
 simpa [hz1, Value.cells] using h

def fourV (n : Nat) : List Value := [.int .u8 ((n : Int) % 256), .int .u8 ((n : Int) / 256 % 256), .int .u8 ((n : Int) / 65536 % 256), .int .u8 ((n : Int) / 16777216 % 256)]
theorem fourV_eq (n : Nat) : fourV n = bvs (fourL n) := by
 have t : ∀ n : Nat, (UInt8.ofNat (n % 256)).toNat = n % 256 := fun n => by simp
 simp only [fourV, bvs, fourL, List.map, bv, t]
 rfl
theorem fourV_one (n : Nat) : ∀ v ∈ fourV n, v.oneCell' = true := by rw [fourV_eq]; exact bvs_one _

theorem lay_cells (l : List UInt8) (n : Nat) (hn : n = l.length) (z : Value) : putAt (putAt (List.replicate (4 + n) z) 0 (fourV (sumF l))) 4 (bvs (l.take n)) = bvs (layF l) := by
 subst hn
 have h4 : (fourV (sumF l)).length = 4 := rfl
 have e1 : putAt (List.replicate (4 + l.length) z) 0 (fourV (sumF l)) = fourV (sumF l) ++ List.replicate l.length z := by
  simp [putAt, h4]
 rw [e1, layF, bvs_append, ← fourV_eq]
 unfold putAt
 rw [List.take_append_of_le_length (by simp [h4]), List.take_of_length_le (by simp [h4]), List.drop_eq_nil_of_le (by simp [h4])]
 simp

set_option maxHeartbeats 400000 in
theorem lay_any (s : ByteArray) (w : World) (hs : s.size ≤ 100000000) :
  Calls Tryz.prog 159 #[.string s] w fun e w' => e = .returned (.string ⟨(layF s.data.toList).toArray⟩) ∧ Below w.heap.size w w' := by
 have hmk := fun w' => make_bytes (4 + s.size) (by omega) (by omega) w'
 go_enter Tryz.func159, Tryz.ntmps159
 go_wp2_with (first | (go_at_call 199; refine (sum_any _ _ (by unfold maxLen; omega)).mono ?_; rintro e w1 ⟨rfl, hb1⟩) | (go_at_call 198; refine (four_any _ _ (sumF_lt _)).mono ?_; rintro e w2 ⟨rfl, hb2⟩))
 clear hmk
 rw [madeCells_one] at hb1
 have hz1 : w.heap.size < w1.heap.size := by have := hb1.size; simp at this; omega
 have hz2 : w.heap.size < w2.heap.size := by have := hb2.size; omega
 have B1 : Blk w2 w.heap.size 5 (List.replicate (4 + s.size) (.int .u8 0)).toArray := ((Blk.new _ _ _).below hb1 (by simp)).below hb2 hz1
 have B2 := B1.alloc (.cells (fourV (sumF s.data.toList)).toArray 212)
 have B3 := Blk.new w2 212 (fourV (sumF s.data.toList)).toArray
 have O3 : Below w.heap.size w (w2.alloc (.cells (fourV (sumF s.data.toList)).toArray 212)) :=
  ((((Below.refl _ _).alloc (Nat.le_refl _) _).trans (hb1.mono (by simp))).trans (hb2.mono (by omega))).alloc (by omega) _
 change Oper.upon _ _ _ _ _ ((Sem.run _ _ (w2.alloc (.cells (fourV (sumF s.data.toList)).toArray 212))).andThen _)
 generalize (w2.alloc (.cells (fourV (sumF s.data.toList)).toArray 212)) = W at B2 B3 O3 ⊢
 obtain ⟨W4, e4, B4, O4⟩ := copy_cells (P := Tryz.prog) B2 141 141 3 5 0 (4 + s.size) (4 + s.size) ⟨w2.heap.size, 0, none⟩ 4 4 (fourV (sumF s.data.toList)) Tryz.underlying141 size_u8
  (by show 4 = min 4 (4 + s.size); omega) (cells_at B3 0 _ (by simp)) (by show 0 + 4 ≤ _; simp) (fourV_one _)
 rw [e4]
 clear e4 B1 B2 B3
 have O5 := O3.trans (O4.below_of O3.size (by simp))
 go_wp2
 ·have hs0 : s = ByteArray.empty := by assumption
  obtain ⟨W5, e5, B5, O6⟩ := copy_string (P := Tryz.prog) B4 141 9 3 5 0 0 0 ByteArray.empty 0 Tryz.underlying141 size_u8 (by rfl) (by simp)
  have eb : putAt (putAt (List.replicate (4 + s.size) (.int .u8 0)) 0 (fourV (sumF s.data.toList))) 0 (bvs (ByteArray.empty.data.toList.take 0)) = bvs (layF s.data.toList) := by
   subst hs0
   have := lay_cells ByteArray.empty.data.toList 0 rfl (.int .u8 0)
   rw [← this, List.take_zero]
   exact (putAt_nil _ _).trans (putAt_nil _ _).symm
  rw [eb] at B5
  have hst := run_string_of (P := Tryz.prog) W5 141 9 5 Tryz.underlying141 Tryz.underlying5 Tryz.underlying9 ⟨w.heap.size, 0, none⟩ 4 4 (layF s.data.toList) (by subst hs0; rfl) (cells_at B5 0 _ (by simp))
  rw [e5]
  have O7 := O5.trans (O6.below_of O5.size (by simp))
  clear e5 B4 B5 eb
  go_wp2
  go_ret
  exact ⟨by subst hs0; rfl, O7⟩
 ·obtain ⟨W5, e5, B5, O6⟩ := copy_string (P := Tryz.prog) B4 141 9 3 5 4 s.size s.size s s.size Tryz.underlying141 size_u8 (by simp) (by rw [putAt_length (by show 0 + 4 ≤ _; simp)]; simp)
  rw [lay_cells _ _ (by simp)] at B5
  have hst := run_string_of (P := Tryz.prog) W5 141 9 5 Tryz.underlying141 Tryz.underlying5 Tryz.underlying9 ⟨w.heap.size, 0, none⟩ (4 + s.size) (4 + s.size) (layF s.data.toList) (by simp [layF, fourL]; omega) (cells_at B5 0 _ (by simp))
  rw [e5]
  have O7 := O5.trans (O6.below_of O5.size (by simp))
  clear e5 B4 B5
  go_wp2
  go_ret
  exact ⟨rfl, O7⟩
end Go.Proofs.YtbelcgjbhpjnpaaGreat.Crc

/- crc: Cut by its contracts. -/
namespace Go.Proofs.YtbelcgjbhpjnpaaGreat.Crc
open Go.RowKit

set_option maxHeartbeats 400000 in
theorem cut_short (s : ByteArray) (w : World) (hs : s.size < 4) :
  Calls Tryz.prog 192 #[.string s] w fun e w' => e = .returned (.tuple #[.string ⟨#[]⟩, .int .i64 5]) ∧ Below w.heap.size w w' := by
 go_enter Tryz.func192, Tryz.ntmps192
 go_wp2
 go_ret2
 exact ⟨rfl, Below.refl _ _⟩

theorem extract_tail (s : ByteArray) : (s.extract 4 s.size).data.toList = s.data.toList.drop 4 := by
 rw [ByteArray.data_extract, Array.toList_extract, List.extract_eq_take_drop, List.take_of_length_le]
 simp
theorem extract_head (s : ByteArray) : (s.extract 0 4).data.toList = s.data.toList.take 4 := by
 rw [ByteArray.data_extract, Array.toList_extract, List.extract_eq_take_drop]
 simp

set_option maxHeartbeats 400000 in
theorem cut_ok (s : ByteArray) (w : World) (h4 : 4 ≤ s.size) (hs : s.size ≤ maxLen) (hc : fourL (sumF (s.data.toList.drop 4)) = s.data.toList.take 4) :
  Calls Tryz.prog 192 #[.string s] w fun e w' => e = .returned (.tuple #[.string (s.extract 4 s.size), .int .i64 0]) ∧ Below w.heap.size w w' := by
 unfold maxLen at hs
 have hN : sumF (List.take (s.size - 4) (List.drop 4 s.data.toList)) < 4294967296 := sumF_lt _
 obtain ⟨N, eN⟩ : ∃ N, sumF (List.take (s.size - 4) (List.drop 4 s.data.toList)) = N := ⟨_, rfl⟩
 have HC := Lib.hid (show fourL N = s.data.toList.take 4 from by
  rw [← hc, ← eN, List.take_of_length_le (by simp)])
 clear hc
 rw [eN] at hN
 go_enter Tryz.func192, Tryz.ntmps192
 go_wp2_with (first | (go_at_call 199; refine (sum_any _ _ (by simp; unfold maxLen; omega)).mono ?_; rintro e w1 ⟨rfl, hb1⟩) | (go_at_call 198; refine (four_any _ _ hN).mono ?_; rintro e w2 ⟨rfl, hb2⟩))
 clear eN
 have B3 : Blk (w2.alloc (.cells (fourV N).toArray 212)) w2.heap.size 212 (bvs (s.data.toList.take 4)).toArray := by
  rw [fourV_eq, HC.out]; exact Blk.new _ _ _
 have O3 : Below w.heap.size w (w2.alloc (.cells (fourV N).toArray 212)) :=
  (hb1.trans (hb2.mono hb1.size)).alloc (Nat.le_trans hb1.size hb2.size) _
 change Code.wp _ _ _ _ (w2.alloc (.cells (fourV N).toArray 212))
 generalize (w2.alloc (.cells (fourV N).toArray 212)) = W at B3 O3 ⊢
 have hst := fun n => run_string_of (P := Tryz.prog) (W.drewN n) 141 9 5 Tryz.underlying141 Tryz.underlying5 Tryz.underlying9 ⟨w2.heap.size, 0, none⟩ 4 4 (s.data.toList.take 4) (by simp; omega) (cells_at (B3.drewN n) 0 (bvs (s.data.toList.take 4)) (by simp))
 go_quiet (fail)
 have hq : (!List.take 4 s.data.toList == (s.extract 0 4).toList) = false := by rw [bytes_toList, extract_head]; simp
 rw [hq]
 go_wp2
 go_ret2
 exact ⟨rfl, Below_drewN O3 _⟩

set_option maxHeartbeats 400000 in
theorem cut_corrupt (s : ByteArray) (w : World) (h4 : 4 ≤ s.size) (hs : s.size ≤ maxLen) (hc : fourL (sumF (s.data.toList.drop 4)) ≠ s.data.toList.take 4) :
  Calls Tryz.prog 192 #[.string s] w fun e w' => e = .returned (.tuple #[.string ⟨#[]⟩, .int .i64 14]) ∧ Below w.heap.size w w' := by
 unfold maxLen at hs
 have hN : sumF (List.take (s.size - 4) (List.drop 4 s.data.toList)) < 4294967296 := sumF_lt _
 obtain ⟨N, eN⟩ : ∃ N, sumF (List.take (s.size - 4) (List.drop 4 s.data.toList)) = N := ⟨_, rfl⟩
 have HC := Lib.hid (show fourL N ≠ s.data.toList.take 4 from by
  intro e; apply hc; rw [← e, ← eN, List.take_of_length_le (by simp)])
 clear hc
 rw [eN] at hN
 go_enter Tryz.func192, Tryz.ntmps192
 go_wp2_with (first | (go_at_call 199; refine (sum_any _ _ (by simp; unfold maxLen; omega)).mono ?_; rintro e w1 ⟨rfl, hb1⟩) | (go_at_call 198; refine (four_any _ _ hN).mono ?_; rintro e w2 ⟨rfl, hb2⟩))
 clear eN
 have B3 : Blk (w2.alloc (.cells (fourV N).toArray 212)) w2.heap.size 212 (bvs (fourL N)).toArray := by
  rw [fourV_eq]; exact Blk.new _ _ _
 have O3 : Below w.heap.size w (w2.alloc (.cells (fourV N).toArray 212)) :=
  (hb1.trans (hb2.mono hb1.size)).alloc (Nat.le_trans hb1.size hb2.size) _
 change Code.wp _ _ _ _ (w2.alloc (.cells (fourV N).toArray 212))
 generalize (w2.alloc (.cells (fourV N).toArray 212)) = W at B3 O3 ⊢
 have hst := fun n => run_string_of (P := Tryz.prog) (W.drewN n) 141 9 5 Tryz.underlying141 Tryz.underlying5 Tryz.underlying9 ⟨w2.heap.size, 0, none⟩ 4 4 (fourL N) rfl (cells_at (B3.drewN n) 0 (bvs (fourL N)) (by simp))
 go_quiet (fail)
 have hq : (!fourL N == (s.extract 0 4).toList) = true := by rw [bytes_toList, extract_head]; simpa using HC.out
 rw [hq]
 go_wp2
 go_ret2
 exact ⟨rfl, Below_drewN O3 _⟩
end Go.Proofs.YtbelcgjbhpjnpaaGreat.Crc

/-
 The reference's bits: read one by one they come to the same register.
-/
namespace Go.Proofs.YtbelcgjbhpjnpaaGreat.Crc
def bitAt (l : List UInt8) (i : Nat) : Nat := (l.getD (i / 8) 0).toNat / 2 ^ (i % 8) % 2
def refReg (l : List UInt8) : Nat → Nat
 | 0 => 4294967295
 | i + 1 => bitStep (refReg l i) (bitAt l i)
theorem bitStep_lt {r b : Nat} (h : r < 4294967296) : bitStep r b < 4294967296 := by
 unfold bitStep
 have h1 : r / 2 < 2 ^ 32 := by omega
 split
 ·omega
 ·exact Nat.xor_lt_two_pow h1 poly_lt
theorem refReg_lt (l : List UInt8) (i : Nat) : refReg l i < 4294967296 := by
 induction i with
 | zero => simp [refReg]
 | succ i ih => exact bitStep_lt ih
theorem bitAt_of (l : List UInt8) (k j : Nat) (hj : j < 8) : bitAt l (8 * k + j) = (l.getD k 0).toNat / 2 ^ j % 2 := by
 unfold bitAt
 have h1 : (8 * k + j) / 8 = k := by omega
 have h2 : (8 * k + j) % 8 = j := by omega
 rw [h1, h2]
theorem refReg_byte (l : List UInt8) (k : Nat) : refReg l (8 * (k + 1)) = takeF (refReg l (8 * k)) (l.getD k 0).toNat := by
 rw [← byteStep_eq _ _ (by have := (l.getD k 0).toNat_lt; omega)]
 have e : 8 * (k + 1) = 8 * k + 7 + 1 := by omega
 rw [e]
 have b := fun j hj => bitAt_of l k j hj
 have b0 := b 0 (by omega)
 have b1 := b 1 (by omega)
 have b2 := b 2 (by omega)
 have b3 := b 3 (by omega)
 have b4 := b 4 (by omega)
 have b5 := b 5 (by omega)
 have b6 := b 6 (by omega)
 have b7 := b 7 (by omega)
 simp only [Nat.add_zero] at b0
 simp only [refReg, byteStep, b0, b1, b2, b3, b4, b5, b6, b7, Nat.pow_zero, Nat.div_one]
theorem refReg_take (l : List UInt8) : ∀ k, k ≤ l.length → refReg l (8 * k) = moreF 4294967295 (l.take k) := by
 intro k
 induction k with
 | zero => intro _; rfl
 | succ k ih =>
  intro h
  rw [refReg_byte, ih (by omega), List.take_succ_eq_append_getElem (by omega), moreF_snoc]
  congr 2
  simp [List.getD, List.getElem?_eq_getElem (show k < l.length by omega)]
theorem refReg_all (l : List UInt8) : 4294967295 - refReg l (8 * l.length) = sumF l := by
 rw [refReg_take l _ (Nat.le_refl _), List.take_length]; rfl
end Go.Proofs.YtbelcgjbhpjnpaaGreat.Crc

/- the reference of layer 3 by its contracts. -/
namespace Go.Proofs.YtbelcgjbhpjnpaaGreat.Crc
open Go.RowKit
set_option maxHeartbeats 400000 in
theorem bit_any (s : ByteArray) (k : Nat) (w : World) (hs : s.size ≤ 100000000) (hk : k < 8 * s.size) :
  Calls Tryz.prog 191 #[.string s, .int .i64 k] w fun e w' => e = .returned (.int .u32 (bitAt s.data.toList k : Nat)) ∧ w = w' := by
 have h8 : k / 8 < s.size := by omega
 go_enter Tryz.func191, Tryz.ntmps191
 go_wp2
 go_ret
 refine ⟨?_, rfl⟩
 have e : s.data.toList.getD (k / 8) 0 = s[k / 8] := by
  simp [List.getD, List.getElem?_eq_getElem (show k / 8 < s.data.toList.length by simpa using h8)]; rfl
 have hb : s[k / 8].toNat < 256 := by have := s[k / 8].toNat_lt; omega
 show Ending.returned (.int .u32 ((s[k / 8].toNat : Int) / 2 ^ (k % 8) % 4294967296 % 2)) = _
 have e2 : ((s[k / 8].toNat : Int) / 2 ^ (k % 8) % 4294967296 % 2) = ((s[k / 8].toNat / 2 ^ (k % 8) % 4294967296 % 2 : Nat) : Int) := by simp
 rw [e2]
 unfold bitAt
 rw [e, Nat.mod_eq_of_lt (show s[k / 8].toNat / 2 ^ (k % 8) < 4294967296 from Nat.lt_of_le_of_lt (Nat.div_le_self _ _) (by omega))]
set_option maxHeartbeats 400000 in
theorem rsum_any (s : ByteArray) (w : World) (hs : s.size ≤ 100000000) :
  Calls Tryz.prog 149 #[.string s] w fun e w' => e = .returned (.int .u32 (sumF s.data.toList : Nat)) ∧ w = w' := by
 have hall := Lib.hid (refReg_all s.data.toList)
 go_enter Tryz.func149, Tryz.ntmps149
 go_wp2
 go_loop [3, 4, 5] (fun reg i _ => ∃ k : Nat, k ≤ 8 * s.size ∧ i = .int .i64 k ∧ reg = .int .u32 (refReg s.data.toList k : Nat)) (fun _ i _ => 8 * s.size - (intOf i).toNat)
 case atStart => exact ⟨0, by omega, rfl, rfl⟩
 case round =>
  obtain ⟨k, hk, rfl, rfl⟩ := hrel
  have hlt := refReg_lt s.data.toList k
  by_cases h : k < 8 * s.size
  ·have HS := Lib.hid (show refReg s.data.toList (k + 1) = bitStep (refReg s.data.toList k) (bitAt s.data.toList k) from rfl)
   generalize refReg s.data.toList k = R at *
   go_wp2_with (go_at_call 191; refine (bit_any _ _ _ hs h).mono ?_; rintro e w1 ⟨rfl, rfl⟩)
   all_goals go_round
   all_goals try (case measure => simp [intOf]; omega)
   ·have ht : ((R : Int) % 2 != (bitAt s.data.toList k : Int)) = true := by assumption
    have ht2 : ¬ R % 2 = bitAt s.data.toList k := by intro e; rw [← e] at ht; simp at ht
    refine ⟨k + 1, by omega, by go_num, ?_⟩
    have := u32_xor_nat (R / 2) 2197175160 (by omega) (by omega)
    rw [HS.out, bitStep, if_neg ht2, ← show bits .xor .u32 ((R : Int) / 2) 2197175160 = ((R / 2 ^^^ poly : Nat) : Int) from this]
   ·have ht : ((R : Int) % 2 != (bitAt s.data.toList k : Int)) = false := by assumption
    have ht2 : R % 2 = bitAt s.data.toList k := by
     simp at ht; omega
    refine ⟨k + 1, by omega, by go_num, ?_⟩
    rw [HS.out, bitStep, if_pos ht2]; rfl
  ·go_wp2
   go_ret
   refine ⟨?_, rfl⟩
   have hl : s.data.toList.length = s.size := by simp
   have hk8 : k = 8 * s.size := by omega
   have e := hall.out
   rw [hl, ← hk8] at e
   show Ending.returned (.int .u32 (4294967295 - (refReg s.data.toList k : Int))) = _
   rw [← e]
   congr 2
   omega
set_option maxHeartbeats 400000 in
theorem rlay_any (s : ByteArray) (w : World) (hs : s.size ≤ 100000000) :
  Calls Tryz.prog 82 #[.string s] w fun e w' => e = .returned (.string ⟨(layF s.data.toList).toArray⟩) ∧ Below w.heap.size w w' := by
 go_enter Tryz.func82, Tryz.ntmps82
 go_wp2_with (first | (go_at_call 149; refine (rsum_any _ _ hs).mono ?_; rintro e w1 ⟨rfl, rfl⟩))
 have hN := sumF_lt s.data.toList
 have HL := Lib.hid (show layF s.data.toList = fourL (sumF s.data.toList) ++ s.data.toList from rfl)
 generalize sumF s.data.toList = N at *
 have e16 : (N : Int) / 16777216 % 4294967296 % 256 = (N : Int) / 16777216 % 256 := by omega
 rw [e16]
 clear e16
 have B3 : Blk (w.alloc (.cells (fourV N).toArray 5)) w.heap.size 5 (bvs (fourL N)).toArray := by
  rw [fourV_eq]; exact Blk.new _ _ _
 have O3 : Below w.heap.size w (w.alloc (.cells (fourV N).toArray 5)) := (Below.refl _ _).alloc (Nat.le_refl _) _
 change Oper.upon _ _ _ _ _ ((Sem.run _ _ (w.alloc (.cells (fourV N).toArray 5))).andThen _)
 generalize (w.alloc (.cells (fourV N).toArray 5)) = W at B3 O3 ⊢
 rw [run_string_of (P := Tryz.prog) W 141 9 5 Tryz.underlying141 Tryz.underlying5 Tryz.underlying9 ⟨w.heap.size, 0, none⟩ 4 4 (fourL N) rfl (cells_at B3 0 (bvs (fourL N)) (by simp))]
 have h4 : (fourL N).length ≤ 4 := Nat.le_refl 4
 go_wp2
 go_ret
 refine ⟨?_, O3⟩
 show Ending.returned (.string (⟨(fourL N).toArray⟩ ++ s)) = _
 rw [HL.out, string_append_list]
end Go.Proofs.YtbelcgjbhpjnpaaGreat.Crc
