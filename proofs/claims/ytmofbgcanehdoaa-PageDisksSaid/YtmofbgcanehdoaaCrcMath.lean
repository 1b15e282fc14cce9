/-
  The plain law of the check: bit by bit and four bits at a time come to one; a turned bit is seen. No program in sight.
-/
namespace Go.Proofs.Ytmofbgcanehdoaa.Crc

def poly : Nat := 2197175160
def tab : List Nat := [0x00000000, 0x105ec76f, 0x20bd8ede, 0x30e349b1, 0x417b1dbc, 0x5125dad3, 0x61c69362, 0x7198540d,
  0x82f63b78, 0x92a8fc17, 0xa24bb5a6, 0xb21572c9, 0xc38d26c4, 0xd3d3e1ab, 0xe330a81a, 0xf36e6f75]
/-- four bits that fall out -/
def nib (r : Nat) : Nat := r / 16 ^^^ tab.getD (r % 16) 0
def takeF (r c : Nat) : Nat := nib (nib (r ^^^ c))
def moreF (r : Nat) (l : List UInt8) : Nat := l.foldl (fun r c => takeF r c.toNat) r
def sumF (l : List UInt8) : Nat := 4294967295 - moreF 4294967295 l

/-- one bit that falls out -/
def z (r : Nat) : Nat := r / 2 ^^^ if r % 2 = 1 then poly else 0
/-- one bit as the document has it -/
def bitStep (r b : Nat) : Nat := if r % 2 = b then r / 2 else r / 2 ^^^ poly

theorem xor_div_two (a b : Nat) : (a ^^^ b) / 2 = a / 2 ^^^ b / 2 := Nat.xor_div_two
theorem xor_mod_two (a b : Nat) : (a ^^^ b) % 2 = (a + b) % 2 := by
  have h : (a ^^^ b) % 2 ^ 1 = (a % 2 ^ 1) ^^^ (b % 2 ^ 1) := Nat.xor_mod_two_pow
  simp only [Nat.pow_one] at h
  rw [h]
  rcases Nat.mod_two_eq_zero_or_one a with ha | ha <;> rcases Nat.mod_two_eq_zero_or_one b with hb | hb <;> rw [ha, hb] <;> simp <;> omega
theorem xor_cancel_right {a b c : Nat} (h : a ^^^ c = b ^^^ c) : a = b := by
  have := congrArg (· ^^^ c) h
  simpa [Nat.xor_assoc] using this
theorem xor_cancel_left {a b c : Nat} (h : c ^^^ a = c ^^^ b) : a = b := xor_cancel_right (c := c) (by rw [Nat.xor_comm a, Nat.xor_comm b]; exact h)

theorem z_xor (a b : Nat) : z (a ^^^ b) = z a ^^^ z b := by
  unfold z
  rw [xor_div_two, xor_mod_two]
  rcases Nat.mod_two_eq_zero_or_one a with ha | ha <;> rcases Nat.mod_two_eq_zero_or_one b with hb | hb
  · rw [if_neg (by omega), if_neg (by omega), if_neg (by omega)]; simp
  · rw [if_pos (by omega), if_neg (by omega), if_pos (by omega)]; simp [Nat.xor_assoc]
  · rw [if_pos (by omega), if_pos (by omega), if_neg (by omega), Nat.xor_zero]; ac_rfl
  · rw [if_neg (by omega), if_pos (by omega), if_pos (by omega)]
    simp only [Nat.xor_zero]
    have : a / 2 ^^^ poly ^^^ (b / 2 ^^^ poly) = a / 2 ^^^ b / 2 ^^^ (poly ^^^ poly) := by ac_rfl
    rw [this]; simp

theorem z_double (q : Nat) : z (2 * q) = q := by
  unfold z
  rw [if_neg (by omega)]; simp

theorem split16 (r : Nat) : r = (2 * (2 * (2 * (2 * (r / 16))))) ^^^ (r % 16) := by
  have h : (2 * (2 * (2 * (2 * (r / 16))))) = 2 ^ 4 * (r / 16) := by omega
  rw [h]
  have : r % 16 < 2 ^ 4 := by omega
  rw [Nat.xor_comm]
  have e : r % 16 ^^^ 2 ^ 4 * (r / 16) = 2 ^ 4 * (r / 16) + r % 16 := by
    apply Nat.eq_of_testBit_eq
    intro i
    rw [Nat.testBit_xor, Nat.testBit_two_pow_mul, Nat.testBit_two_pow_mul_add _ this]
    by_cases h4 : i < 4
    · simp [h4, Nat.not_le.2 h4]
    · have : (r % 16).testBit i = false := Nat.testBit_lt_two_pow (Nat.lt_of_lt_of_le this (Nat.pow_le_pow_right (by decide) (by omega)))
      simp [h4, this, Nat.not_lt.1 h4]
  rw [e]; omega

theorem z4_small : ∀ n, n < 16 → z (z (z (z n))) = tab.getD n 0 := by decide

theorem z4_nib (r : Nat) : z (z (z (z r))) = nib r := by
  conv => lhs; rw [split16 r]
  simp only [z_xor, z_double]
  rw [z4_small _ (Nat.mod_lt _ (by decide))]
  rfl

theorem bitStep_z (r c : Nat) : bitStep r (c % 2) = z (r ^^^ c) ^^^ (c / 2) := by
  have h2 : r / 2 ^^^ c / 2 ^^^ c / 2 = r / 2 := by rw [Nat.xor_assoc]; simp
  unfold bitStep z
  rw [xor_div_two, xor_mod_two]
  by_cases h : r % 2 = c % 2
  · rw [if_pos h, if_neg (by omega)]; simp [h2]
  · rw [if_neg h, if_pos (by omega)]
    have : r / 2 ^^^ c / 2 ^^^ poly ^^^ c / 2 = r / 2 ^^^ poly ^^^ (c / 2 ^^^ c / 2) := by ac_rfl
    rw [this]; simp

theorem bits_step (r d c : Nat) (h : r = d ^^^ c) : bitStep r (c % 2) = z d ^^^ (c / 2) := by
  rw [bitStep_z, h]
  have : d ^^^ c ^^^ c = d := by rw [Nat.xor_assoc]; simp
  rw [this]

/-- eight bits of a byte -/
def byteStep (r c : Nat) : Nat :=
  bitStep (bitStep (bitStep (bitStep (bitStep (bitStep (bitStep (bitStep r (c % 2)) (c / 2 % 2)) (c / 4 % 2)) (c / 8 % 2)) (c / 16 % 2)) (c / 32 % 2)) (c / 64 % 2)) (c / 128 % 2)

theorem byteStep_eq (r c : Nat) (hc : c < 256) : byteStep r c = takeF r c := by
  have h0 : r = (r ^^^ c) ^^^ c := by rw [Nat.xor_assoc]; simp
  have h1 := bits_step r (r ^^^ c) c h0
  have h2 := bits_step _ _ _ h1
  have h3 := bits_step _ _ _ h2
  have h4 := bits_step _ _ _ h3
  have h5 := bits_step _ _ _ h4
  have h6 := bits_step _ _ _ h5
  have h7 := bits_step _ _ _ h6
  have h8 := bits_step _ _ _ h7
  have e2 : c / 2 / 2 = c / 4 := by omega
  have e3 : c / 4 / 2 = c / 8 := by omega
  have e4 : c / 8 / 2 = c / 16 := by omega
  have e5 : c / 16 / 2 = c / 32 := by omega
  have e6 : c / 32 / 2 = c / 64 := by omega
  have e7 : c / 64 / 2 = c / 128 := by omega
  have e8 : c / 128 / 2 = 0 := by omega
  simp only [e2, e3, e4, e5, e6, e7, e8, Nat.xor_zero] at h8
  unfold byteStep takeF
  rw [h8, z4_nib, z4_nib]

theorem poly_lt : poly < 2 ^ 32 := by decide
theorem z_lt {r : Nat} (h : r < 4294967296) : z r < 4294967296 := by
  unfold z
  have h1 : r / 2 < 2 ^ 32 := by omega
  split
  · exact Nat.xor_lt_two_pow h1 poly_lt
  · simpa using h1
theorem nib_lt {r : Nat} (h : r < 4294967296) : nib r < 4294967296 := by
  rw [← z4_nib]; exact z_lt (z_lt (z_lt (z_lt h)))
theorem xor_byte_lt {r c : Nat} (h : r < 4294967296) (hc : c < 256) : r ^^^ c < 4294967296 :=
  Nat.xor_lt_two_pow (n := 32) h (by omega)
theorem takeF_lt {r c : Nat} (h : r < 4294967296) (hc : c < 256) : takeF r c < 4294967296 := nib_lt (nib_lt (xor_byte_lt h hc))
theorem moreF_lt (l : List UInt8) : ∀ {r : Nat}, r < 4294967296 → moreF r l < 4294967296 := by
  induction l with
  | nil => intro r h; exact h
  | cons c l ih => intro r h; exact ih (takeF_lt h (by have := c.toNat_lt; omega))
theorem sumF_lt (l : List UInt8) : sumF l < 4294967296 := by unfold sumF; omega
theorem moreF_nil (r : Nat) : moreF r [] = r := rfl
theorem moreF_append (r : Nat) (l m : List UInt8) : moreF r (l ++ m) = moreF (moreF r l) m := by simp [moreF]
theorem moreF_snoc (r : Nat) (l : List UInt8) (c : UInt8) : moreF r (l ++ [c]) = takeF (moreF r l) c.toNat := by simp [moreF]

/-! injective -/
theorem z_top {r : Nat} (h : r < 4294967296) : z r / 2147483648 = r % 2 := by
  unfold z
  have h1 : r / 2 < 2 ^ 31 := by omega
  rcases Nat.mod_two_eq_zero_or_one r with e | e
  · rw [if_neg (by omega), e]; simp; omega
  · rw [if_pos e, e]
    have hb : (r / 2 ^^^ poly).testBit 31 = true := by
      rw [Nat.testBit_xor, Nat.testBit_lt_two_pow h1]; decide
    have hl : r / 2 ^^^ poly < 2 ^ 32 := Nat.xor_lt_two_pow (by omega) poly_lt
    have := Nat.ge_two_pow_of_testBit hb
    omega
theorem z_inj {a b : Nat} (ha : a < 4294967296) (hb : b < 4294967296) (h : z a = z b) : a = b := by
  have hp : a % 2 = b % 2 := by rw [← z_top ha, ← z_top hb, h]
  have hd : a / 2 = b / 2 := by
    unfold z at h
    rw [hp] at h
    exact xor_cancel_right h
  omega
theorem nib_inj {a b : Nat} (ha : a < 4294967296) (hb : b < 4294967296) (h : nib a = nib b) : a = b := by
  rw [← z4_nib, ← z4_nib] at h
  exact z_inj ha hb (z_inj (z_lt ha) (z_lt hb) (z_inj (z_lt (z_lt ha)) (z_lt (z_lt hb)) (z_inj (z_lt (z_lt (z_lt ha))) (z_lt (z_lt (z_lt hb))) h)))
theorem takeF_inj_reg {a b c : Nat} (ha : a < 4294967296) (hb : b < 4294967296) (hc : c < 256) (h : takeF a c = takeF b c) : a = b := by
  have := nib_inj (xor_byte_lt ha hc) (xor_byte_lt hb hc) (nib_inj (nib_lt (xor_byte_lt ha hc)) (nib_lt (xor_byte_lt hb hc)) h)
  exact xor_cancel_right this
theorem takeF_inj_byte {a c d : Nat} (ha : a < 4294967296) (hc : c < 256) (hd : d < 256) (h : takeF a c = takeF a d) : c = d := by
  have := nib_inj (xor_byte_lt ha hc) (xor_byte_lt ha hd) (nib_inj (nib_lt (xor_byte_lt ha hc)) (nib_lt (xor_byte_lt ha hd)) h)
  exact xor_cancel_left this
theorem moreF_inj (l : List UInt8) : ∀ {a b : Nat}, a < 4294967296 → b < 4294967296 → moreF a l = moreF b l → a = b := by
  induction l with
  | nil => intro a b _ _ h; exact h
  | cons c l ih =>
    intro a b ha hb h
    have hc : c.toNat < 256 := by have := c.toNat_lt; omega
    exact takeF_inj_reg ha hb hc (ih (takeF_lt ha hc) (takeF_lt hb hc) h)
/-- one byte that is another gives another check -/
theorem sumF_set (l : List UInt8) (i : Nat) (hi : i < l.length) (d : UInt8) (hd : d ≠ l[i]) : sumF (l.set i d) ≠ sumF l := by
  intro h
  have h1 : moreF 4294967295 (l.set i d) = moreF 4294967295 l := by
    have a := moreF_lt (l.set i d) (r := 4294967295) (by omega)
    have b := moreF_lt l (r := 4294967295) (by omega)
    unfold sumF at h; omega
  have e1 : l = l.take i ++ l[i] :: l.drop (i + 1) := by simp
  have e2 : l.set i d = l.take i ++ d :: l.drop (i + 1) := List.set_eq_take_append_cons_drop .. ▸ by simp [hi]
  rw [e2] at h1
  conv at h1 => rhs; rw [e1]
  rw [moreF_append, moreF_append] at h1
  have hr := moreF_lt (l.take i) (r := 4294967295) (by omega)
  have q1 : d.toNat < 256 := by have := d.toNat_lt; omega
  have q2 : l[i].toNat < 256 := by have := l[i].toNat_lt; omega
  have h2 := moreF_inj _ (takeF_lt hr q1) (takeF_lt hr q2) h1
  exact hd (UInt8.toNat_inj.1 (takeF_inj_byte hr q1 q2 h2))

/-! the check's bytes, the lowest first -/
def fourL (n : Nat) : List UInt8 := [UInt8.ofNat (n % 256), UInt8.ofNat (n / 256 % 256), UInt8.ofNat (n / 65536 % 256), UInt8.ofNat (n / 16777216 % 256)]
theorem fourL_length (n : Nat) : (fourL n).length = 4 := rfl
theorem fourL_inj {a b : Nat} (ha : a < 4294967296) (hb : b < 4294967296) (h : fourL a = fourL b) : a = b := by
  simp only [fourL, List.cons.injEq, and_true] at h
  obtain ⟨h0, h1, h2, h3⟩ := h
  have t : ∀ n : Nat, (UInt8.ofNat (n % 256)).toNat = n % 256 := fun n => by simp
  have h0' := congrArg UInt8.toNat h0
  have h1' := congrArg UInt8.toNat h1
  have h2' := congrArg UInt8.toNat h2
  have h3' := congrArg UInt8.toNat h3
  rw [t, t] at h0' h1' h2' h3'
  omega
def layF (l : List UInt8) : List UInt8 := fourL (sumF l) ++ l
end Go.Proofs.Ytmofbgcanehdoaa.Crc
