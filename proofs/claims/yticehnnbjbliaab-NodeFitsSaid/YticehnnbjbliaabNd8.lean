/- nodes: Put's inner function. -/
import Derived.Test.YticehnnbjbliaabNd7
namespace Go.Proofs.Yticehnnbjbliaab.Nd
open Go.RowKit Sl
attribute [local go_sem ↓] exec_app
/-- an entry's record -/
def recE (e : E) : List UInt8 := UInt8.ofNat e.key.size :: (e.key.data.toList ++ (two8 (e.far + 1).toNat ++ e.val.data.toList))
def recB (e : E) : ByteArray := ⟨(recE e).toArray⟩
theorem ba_append (a b : ByteArray) : a ++ b = ⟨(a.data.toList ++ b.data.toList).toArray⟩ := by
  have := string_append_list a.data.toList b
  rw [ba_eq] at this
  exact this
theorem recB_eq (e : E) : (⟨[UInt8.ofNat e.key.size].toArray⟩ ++ e.key) ++ ⟨(two8 (e.far + 1).toNat).toArray⟩ ++ e.val = recB e := by
  rw [ba_append, ba_append, ba_append]
  unfold recB recE
  simp
theorem asz (w : World) (o : Obj) : (w.alloc o).heap.size = w.heap.size + 1 := by simp
set_option maxRecDepth 100000 in
set_option maxHeartbeats 2000000 in
theorem put1_any {w : World} (e : E) (hk : e.key.size ≤ 32) (hv : e.val.size ≤ 40) (hf : -1 ≤ e.far) (hf2 : e.far ≤ 511) {g n : Nat} {v : Value} {l : List (List UInt8)} (B : Blk w g 34 #[v]) (S : Slc w 9 1 v n (strs l)) (hg : g ∉ ownB v) (hn : n ≤ 1000000) :
    Calls Try.prog 27 #[e.agg, .pointer (some ⟨g, 0, none⟩)] w fun r w' => r = .returned (.tuple #[]) ∧ ∃ v', Blk w' g 34 #[v'] ∧ Slc w' 9 1 v' (n + 1) (strs (l ++ [recE e])) ∧ Only (g :: ownB v) w w' ∧ (∀ x ∈ ownB v', x ∈ ownB v ∨ w.heap.size ≤ x) := by
  obtain ⟨A, c, rfl⟩ := slc_val S
  have HR := Lib.hid (recB_eq e)
  have hR2 : Value.string (recB e) = .string ⟨(recE e).toArray⟩ := rfl
  obtain ⟨m, hm⟩ := Int.eq_ofNat_of_zero_le (show 0 ≤ e.far + 1 by omega)
  have hm2 : m ≤ 512 := by omega
  have e0 : Value.int .u8 ((m : Int) / 256) = bv (UInt8.ofNat (m / 256)) := by
    unfold bv
    congr 1
    rw [UInt8.toNat_ofNat']
    omega
  have e1 : Value.int .u8 ((m : Int) % 256) = bv (UInt8.ofNat m) := by
    unfold bv
    rfl
  have e2 : Value.int .u8 (e.key.size : Int) = bv (UInt8.ofNat e.key.size) := by
    unfold bv
    congr 1
    rw [UInt8.toNat_ofNat']
    omega
  rw [hm, Int.toNat_natCast] at HR
  have HE := Lib.hid (show #[Value.int .u8 ((m : Int) / 256), Value.int .u8 ((m : Int) % 256)] = (bvs (two8 m)).toArray from by rw [e0, e1]; rfl)
  have HK := Lib.hid (show #[Value.int .u8 (e.key.size : Int)] = (bvs [UInt8.ofNat e.key.size]).toArray from by rw [e2]; rfl)
  have BX := Lib.hid (Blk.new w 56 #[.string e.key, .string e.val, .int .i64 e.far])
  have s1 := run_string_of (P := Try.prog) ((w.alloc (.cells #[.string e.key, .string e.val, .int .i64 e.far] 56)).alloc (.cells (bvs [UInt8.ofNat e.key.size]).toArray 5)) 59 9 5 Try.underlying59 Try.underlying5 Try.underlying9 ⟨(w.alloc (.cells #[.string e.key, .string e.val, .int .i64 e.far] 56)).heap.size, 0, none⟩ 1 1 [UInt8.ofNat e.key.size] rfl (cells_at (l := bvs [UInt8.ofNat e.key.size]) (Blk.new _ 5 _) 0 _ (by intro j u hu; rw [Nat.zero_add]; exact hu))
  rw [← HK.out, asz] at s1
  have S1 := Lib.hid s1
  have s2 := run_string_of (P := Try.prog) (((w.alloc (.cells #[.string e.key, .string e.val, .int .i64 e.far] 56)).alloc (.cells #[.int .u8 (e.key.size : Int)] 5)).alloc (.cells (bvs (two8 m)).toArray 5)) 59 9 5 Try.underlying59 Try.underlying5 Try.underlying9 ⟨((w.alloc (.cells #[.string e.key, .string e.val, .int .i64 e.far] 56)).alloc (.cells #[.int .u8 (e.key.size : Int)] 5)).heap.size, 0, none⟩ 2 2 (two8 m) rfl (cells_at (l := bvs (two8 m)) (Blk.new _ 5 _) 0 _ (by intro j u hu; rw [Nat.zero_add]; exact hu))
  rw [← HE.out, asz, asz] at s2
  have S2 := Lib.hid s2
  have B1 := B.alloc (.cells #[.string e.key, .string e.val, .int .i64 e.far] 56)
  have c1 : (w.alloc (.cells #[.string e.key, .string e.val, .int .i64 e.far] 56)).cell? ⟨g, 0, none⟩ = some (.slice A n c) := B1.cell_some (i := 0) rfl
  obtain ⟨v', w2, ea, SS, ow, fr⟩ := append_one (P := Try.prog) (((S.alloc (.cells #[.string e.key, .string e.val, .int .i64 e.far] 56)).alloc (.cells #[.int .u8 (e.key.size : Int)] 5)).alloc (.cells #[Value.int .u8 ((m : Int) / 256), Value.int .u8 ((m : Int) % 256)] 5)) 34 34 (.string .empty) 16 Try.underlying34 info_string rfl (.string (⟨#[UInt8.ofNat e.key.size]⟩ ++ e.key ++ ⟨(two8 m).toArray⟩ ++ e.val)) rfl (by unfold maxLen; omega) (by omega)
  obtain ⟨V2, vc2, rfl⟩ := slc_val SS
  rw [asz, asz, asz] at ea
  have EA := Lib.hid ea
  clear s1 s2 ea
  have OO := Lib.hid (((((Only.refl (g :: ownB (.slice A n c)) w).alloc (.cells #[.string e.key, .string e.val, .int .i64 e.far] 56)).alloc (.cells #[.int .u8 (e.key.size : Int)] 5)).alloc (.cells #[Value.int .u8 ((m : Int) / 256), Value.int .u8 ((m : Int) % 256)] 5)).trans_of ow (fun x hx _ => List.mem_cons_of_mem _ hx))
  have B2 := Lib.hid ((((B.alloc (.cells #[.string e.key, .string e.val, .int .i64 e.far] 56)).alloc (.cells #[.int .u8 (e.key.size : Int)] 5)).alloc (.cells #[Value.int .u8 ((m : Int) / 256), Value.int .u8 ((m : Int) % 256)] 5)).only ow hg)
  have hR3 : Value.string (⟨#[UInt8.ofNat e.key.size]⟩ ++ e.key ++ ⟨(two8 m).toArray⟩ ++ e.val) = .string ⟨(recE e).toArray⟩ := congrArg Value.string HR.out
  rw [hR3, strs_snoc] at SS
  replace SS := Lib.hid SS
  have c2 : w2.cell? ⟨g, 0, none⟩ = some (.slice A n c) := B2.out.cell_some (i := 0) rfl
  have c3 : w2.frozen? ⟨g, 0, none⟩ = false := B2.out.frozen 0 (by simp)
  have t8 : (two8 m).length = 2 := rfl
  have FR2 := Lib.hid (show ∀ x ∈ ownB (.slice V2 (n + 1) vc2), x ∈ ownB (.slice A n c) ∨ w.heap.size ≤ x from fun x hx => (fr x hx).imp id (fun h => by rw [asz, asz, asz] at h; omega))
  have NE := Lib.hid (show g ∉ ownB (.slice V2 (n + 1) vc2) from fun hx => (FR2.out g hx).elim hg (fun h => by have := B.lt; omega))
  have HM := Lib.hid hm
  unfold E.agg
  clear B1 e0 e1 e2 ow fr S B hg hR2 hR3
  have m1 : IntKind.u8.wrap ((m : Int) / 256) = (m : Int) / 256 := IntWalk.u8_in _ (by omega)
  go_enter Try.func27, Try.ntmps27
  go_wp2_with fail
  rw [S1.out]
  go_wp2_with fail
  rw [S2.out]
  go_wp2_with fail
  rw [EA.out]
  go_wp2_with fail
  go_end0
  exact ⟨rfl, _, B2.out.set_ 0 _, SS.out.only ((Only.refl [g] w2).setCell (fun _ => by simp) _) (fun x hx => by simp; exact fun hh => NE.out (hh ▸ hx)), OO.out.setCell (fun _ => by simp) _, FR2.out⟩
end Go.Proofs.Yticehnnbjbliaab.Nd
