/- roots: bytes laid. -/
import Derived.Test.YtemcamhkacaoiaaRt2
namespace Go.Proofs.Ytemcamhkacaoiaa.Rt
open Go.RowKit Pk
attribute [local go_sem ↓] Go.wp_at_zero Go.wp_at_succ exec_app
def two8 (n : Nat) : List UInt8 := [UInt8.ofNat (n / 256), UInt8.ofNat n]
theorem append_cells {P : Program} {w : World} {e : TypeId} {v : Value} {n : Nat} {l : List Value} (S : Slc w e 1 v n l)
    (T ty : TypeId) (z : Value) (bytes : Nat) (ht : P.underlying T = some (.slice e)) (hinfo : (P.info? e).map (fun i => (i.zero, i.size, i.bytes)) = some (some z, 1, bytes)) (hz : z.cells.size = 1)
    (news : List Value) (hx : ∀ u ∈ news, u.oneCell' = true) (h63 : n + news.length ≤ maxLen) (hb : (n + news.length) * bytes ≤ 140737488355328) :
    ∃ v' w', appRun P T ty (w.alloc (.cells news.toArray e)) v (.slice (some ⟨w.heap.size, 0, none⟩) news.length news.length) = .ok v' w' ∧ Slc w' e 1 v' (n + news.length) (l ++ news) ∧ Only (ownB v) w w' ∧ (∀ g ∈ ownB v', g ∈ ownB v ∨ w.heap.size ≤ g) := by
  obtain ⟨i0, hi, hz0, hz1, hz2⟩ := info_parts hinfo
  obtain ⟨v', w', h1, h2, h3, h4⟩ := append_slc (P := P) (S.alloc (.cells news.toArray e)) T ty i0 z bytes ht hi hz0 hz1 hz2 hz (by omega)
    ⟨w.heap.size, 0, none⟩ news.length news.length news (by simp) (cells_at (l := news) (Blk.new w e news.toArray) 0 _ (by intro j u hu; rw [Nat.zero_add]; exact hu)) hx h63 hb
  exact ⟨v', w', h1, h2, ((Only.refl _ _).alloc _).trans_of h3 (fun x hx _ => hx), fun g hg => (h4 g hg).imp id (fun h => by simp at h; omega)⟩
set_option maxRecDepth 100000 in
set_option maxHeartbeats 2000000 in
theorem two_any {w : World} (v : Value) (k : Nat) (l : List UInt8) (S : Slc w 5 1 v k (bvs l)) (n : Nat) (hn : n ≤ 65535) (hk : k ≤ 1000) :
    Calls Try.prog 16 #[v, .int .i64 (n : Nat)] w fun e w' => (∃ v', e = .returned v' ∧ Slc w' 5 1 v' (k + 2) (bvs (l ++ two8 n)) ∧ (∀ g ∈ ownB v', g ∈ ownB v ∨ w.heap.size ≤ g)) ∧ Only (ownB v) w w' := by
  obtain ⟨A, c, rfl⟩ := slc_val S
  have e0 : Value.int .u8 ((n : Int) / 256) = bv (UInt8.ofNat (n / 256)) := by
    unfold bv
    congr 1
    rw [UInt8.toNat_ofNat']
    omega
  have e1 : Value.int .u8 ((n : Int) % 256) = bv (UInt8.ofNat n) := by
    unfold bv
    rfl
  obtain ⟨v', w2, ea, S2, ow, fr⟩ := append_cells (P := Try.prog) S 44 44 (.int .u8 0) 1 Try.underlying44 Crc.info_u8 rfl [.int .u8 ((n : Int) / 256), .int .u8 ((n : Int) % 256)] (by intro u hu; simp at hu; rcases hu with rfl | rfl <;> rfl) (by simp; unfold maxLen; omega) (by simp; omega)
  obtain ⟨V2, vc2, rfl⟩ := slc_val S2
  have EA := Lib.hid (show appRun Try.prog 44 44 (w.alloc (.cells #[.int .u8 ((n : Int) / 256), .int .u8 ((n : Int) % 256)] 5)) (.slice A k c) (.slice (some ⟨w.heap.size, 0, none⟩) 2 2) = .ok (.slice V2 (k + 2) vc2) w2 from ea)
  have SX := Lib.hid (show Slc w2 5 1 (.slice V2 (k + 2) vc2) (k + 2) (bvs (l ++ two8 n)) from by
    rw [e0, e1] at S2
    rw [bvs_append]
    exact S2)
  have OX := Lib.hid ow
  have FX := Lib.hid fr
  have m1 : IntKind.u8.wrap ((n : Int) / 256) = (n : Int) / 256 := IntWalk.u8_in _ (by omega)
  clear ea S2 ow fr S e0 e1
  go_enter Try.func16, Try.ntmps16
  go_wp2_with fail
  rw [EA.out]
  go_wp2_with fail
  go_ret
  exact ⟨⟨_, rfl, SX.out, FX.out⟩, OX.out⟩
/-- what a root's bytes are: the middle -/
def midL (lg : Nat) (l : List Nat) : List UInt8 := (two8 lg ++ two8 l.length ++ (l ++ List.replicate (5 - l.length) 0).flatMap two8) ++ List.replicate 30 0
def rootL (ep : Int) (lg : Nat) (l : List Nat) : List UInt8 := packI ep ++ Crc.layF (midL lg l) ++ packI ep
end Go.Proofs.Ytemcamhkacaoiaa.Rt
