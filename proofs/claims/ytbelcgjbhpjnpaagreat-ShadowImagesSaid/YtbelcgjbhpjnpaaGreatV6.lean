/- shadow's laws: Does. -/
import Derived.Test.YtbelcgjbhpjnpaaGreatV5
set_option linter.all false
set_option linter.unusedVariables false
set_option linter.unusedSimpArgs false
namespace Go.Proofs.YtbelcgjbhpjnpaaGreat.Sh
open Go.RowKit Pk Dk Pg
attribute [local go_sem ↓] Go.wp_at_zero Go.wp_at_succ
/-- between two calls, with the disk at L: how many were done -/
def LL (w0 w : World) (L : Dk.Loc) (b rb n : Nat) (K : Nat) : Prop := ∃ x c a tw, x.L = L ∧ x.b = b ∧ LS w0 w x rb n c a 0 K tw
theorem LL.below {w0 w w' : World} {L : Dk.Loc} {b rb n K : Nat} (h : LL w0 w L b rb n K) (hb : Below w.heap.size w w') : LL w0 w' L b rb n K := by
 obtain ⟨x, c, a, tw, e1, e2, S⟩ := h
 exact ⟨x, c, a, tw, e1, e2, S.below hb⟩
theorem LL.b0 {w0 w : World} {L : Dk.Loc} {b rb n K : Nat} (h : LL w0 w L b rb n K) : Below w0.heap.size w0 w := by
 obtain ⟨x, c, a, tw, e1, e2, S⟩ := h
 exact S.b0
theorem LL.do_ {w0 w : World} {L : Dk.Loc} {b rb n K : Nat} (h : LL w0 w L b rb n K) (kd l : Int) (s : ByteArray) (hs : s.size ≤ 1000000) (hK : K ≤ 999) :
  Calls Tryz.prog 16 #[dp L.b, sp b, rp rb, .agg #[.int .i64 kd, .int .i64 l, .string s]] w fun e w' => ∃ b', e = .returned (.tuple #[sp b', .bool true]) ∧ LL w0 w' L b' rb n (K + 1) := by
 obtain ⟨x, c, a, tw, rfl, rfl, S⟩ := h
 refine (S.do_any kd l s hs hK (fun _ => rfl)).mono ?_
 rintro e w' (⟨x', c', a', α', h1, _, h2, rfl, S', _⟩ | ⟨h1, _⟩)
 ·have := S'.al.1
  obtain rfl : α' = 0 := by omega
  exact ⟨x'.b, rfl, x', c', a', _, h1, rfl, S'⟩
 ·omega
theorem LL.same {w0 w : World} {L : Dk.Loc} {b rb n K : Nat} (h : LL w0 w L b rb n K) :
  Calls Tryz.prog 17 #[sp b, rp rb] w fun e w' => e = .returned (.bool true) ∧ LL w0 w' L b rb n K := by
 have h' := h
 obtain ⟨x, c, a, tw, rfl, rfl, S⟩ := h
 exact S.same.mono fun e w' h => ⟨h.1, h'.below h.2⟩
theorem LL.more {w0 w : World} {L : Dk.Loc} {b rb n K : Nat} (h : LL w0 w L b rb n K) : LL w0 w L b rb n (K + 1) := by
 obtain ⟨x, c, a, tw, e1, e2, S⟩ := h
 exact ⟨x, c, a, tw, e1, e2, S.at_, S.rt, S.b0, S.fr, S.g, S.R, S.T, S.h0, S.e, S.al, by have := S.bc; omega, by have := S.be; omega⟩
set_option maxRecDepth 100000 in
set_option maxHeartbeats 8000000 in
theorem shadowDoes_any (pages : Nat) (hp : pages < 256) {w : World} (A : Option Addr) (m cc : Nat) (F : Nat → Sa) (hm : m ≤ 9223372036854775807) (hA : SActs w A m F) :
  Calls Tryz.prog 3 #[.int .u8 (pages : Nat), .slice A m cc] w fun e w' => e = .returned (.bool true) ∧ Below w.heap.size w w' := by
 obtain ⟨pg, hpg⟩ : ∃ pg : Nat, pg = pages % 14 + 1 := ⟨_, rfl⟩
 have e0 : (pages : Int) % 14 = ((pages % 14 : Nat) : Int) := by omega
 have e1 : IntKind.i64.wrap (((pages % 14 : Nat) : Int)) = ((pages % 14 : Nat) : Int) := IntWalk.i64_in _ (by omega)
 have e2 : IntKind.i64.wrap (((pages % 14 : Nat) : Int) + 1) = ((pg : Nat) : Int) := by rw [show ((pages % 14 : Nat) : Int) + 1 = (pg : Nat) by omega]; exact IntWalk.i64_in _ (by omega)
 have e3 : IntKind.i64.wrap ((pages : Int) % 14) = ((pages % 14 : Nat) : Int) := by rw [e0]; exact e1
 have KB := Lib.hid (begun14_any w pg (by omega) (by omega))
 have KA := Lib.hid awake14
 have HA := Lib.hid (fun (W : World) (hb : Below w.heap.size w W) => hA.below hb)
 have KS := Lib.hid short14_any
 have KD := Lib.hid (fun (W : World) (L : Dk.Loc) (b rb K : Nat) (h : LL w W L b rb (2 + 4 * pg) K) (kd l : Int) (s : ByteArray) (hs : s.size ≤ 1000000) (hK : K ≤ 999) => h.do_ kd l s hs hK)
 have KM := Lib.hid (fun (W : World) (L : Dk.Loc) (b rb K : Nat) (h : LL w W L b rb (2 + 4 * pg) K) => h.same)
 clear hA hpg
 generalize pages % 14 = pr at *
 unfold dp sp rp at *
 go_enter Tryz.func3, Tryz.ntmps3
 go_wp2_with fail
 refine KB.out.mono ?_
 rintro e w1 ⟨x, rb, c, rfl, S1⟩
 obtain ⟨L, hL⟩ : ∃ L, x.L = L := ⟨_, rfl⟩
 obtain ⟨b, hb⟩ : ∃ b, x.b = b := ⟨_, rfl⟩
 have H1 := Lib.hid (show LL w w1 L b rb (2 + 4 * pg) 1 from ⟨x, c, _, _, hL, hb, S1⟩)
 rw [hL, hb]
 clear S1 hL hb
 go_wp2_with fail
 refine (KA.out w1).mono ?_
 rintro e w2 ⟨rfl, hb2⟩
 have H2 := Lib.hid (H1.out.below hb2)
 clear hb2
 go_wp2_with fail
 go_loopw [7, 9] (fun sv iv wr => ∃ (i : Nat) (b' : Nat), i ≤ 40 ∧ iv = .int .i64 i ∧ sv = .pointer (some ⟨b', 0, none⟩) ∧ Hid (LL w wr L b' rb (2 + 4 * pg) (i + 1))) (fun _ iv _ => 40 - (intOf iv).toNat)
 case atStart => exact ⟨0, b, Nat.zero_le _, rfl, rfl, H2⟩
 case round =>
  obtain ⟨i, b', hi, rfl, rfl, H⟩ := hrel
  by_cases h1 : i < m
  ·have h1I : (i : Int) < (m : Int) := by omega
   by_cases h2 : i < 40
   ·have h2I : (i : Int) < 40 := by omega
    obtain ⟨ad, rfl, hSa⟩ := HA.out wr H.out.b0 i h1
    obtain ⟨c0, c1, c2⟩ := hSa
    have HC := Lib.hid (show ∀ W, Below w.heap.size w W → SaAt W (ad.add (i * 3)) (F i) from fun W hb => by
     obtain ⟨ad', e, h⟩ := HA.out W hb i h1
     injection e with e
     rw [e]; exact h)
    generalize F i = sa at c0 c1 c2 HC
    obtain ⟨kd, l, s⟩ := sa
    dsimp only at c0 c1 c2
    have KS2 := Lib.hid (fun (W : World) => KS.out kd l s W _ rfl)
    have ei : IntKind.i64.wrap ((i : Int) + 1) = ((i + 1 : Nat) : Int) := IntWalk.i64_in _ (by omega)
    by_cases hs : s.size < 500
    ·rw [show decide (s.size < 500) = true by simpa using hs] at KS2
     have HSZ := Lib.hid hs
     clear hs
     go_wp2_with fail
     refine (KS2.out _).mono ?_
     rintro e w3 ⟨rfl, hb3⟩
     have H3 := Lib.hid (H.out.below hb3)
     obtain ⟨d0, d1, d2⟩ := HC.out w3 H3.out.b0
     dsimp only at d0 d1 d2
     clear hb3 c0 c1 c2
     go_wp2_with fail
     refine (KD.out w3 L b' rb (i + 1) H3.out kd l s (by have := HSZ.out; omega) (by omega)).mono ?_
     rintro e w4 ⟨b2, rfl, h4⟩
     have H4 := Lib.hid h4
     clear h4 d0 d1 d2
     go_wp2_with fail
     refine (KM.out w4 L b2 rb _ H4.out).mono ?_
     rintro e w5 ⟨rfl, h5⟩
     have H5 := Lib.hid h5
     clear h5
     go_wp2_with fail
     go_roundw
     case rel => exact ⟨i + 1, b2, by omega, by go_num, rfl, H5⟩
     case measure => simp [intOf]; omega
    ·rw [show decide (s.size < 500) = false by simpa using hs] at KS2
     clear hs
     go_wp2_with fail
     refine (KS2.out _).mono ?_
     rintro e w3 ⟨rfl, hb3⟩
     have H3 := Lib.hid (H.out.below hb3)
     clear hb3 c0 c1 c2
     go_wp2_with fail
     refine (KM.out w3 L b' rb _ H3.out).mono ?_
     rintro e w5 ⟨rfl, h5⟩
     have H5 := Lib.hid h5.more
     clear h5
     go_wp2_with fail
     go_roundw
     case rel => exact ⟨i + 1, b', by omega, by go_num, rfl, H5⟩
     case measure => simp [intOf]; omega
   ·have h2I : ¬ (i : Int) < 40 := by omega
    go_wp2_with fail
    go_ret
    exact ⟨by first | rfl | simp, H.out.b0⟩
  ·have h1I : ¬ (i : Int) < (m : Int) := by omega
   go_wp2_with fail
   go_ret
   exact ⟨by first | rfl | simp, H.out.b0⟩
end Go.Proofs.YtbelcgjbhpjnpaaGreat.Sh
