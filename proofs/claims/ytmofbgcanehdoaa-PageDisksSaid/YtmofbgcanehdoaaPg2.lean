/- pages: a page laid. -/
import Derived.Test.YtmofbgcanehdoaaPg
import Derived.Test.YtmofbgcanehdoaaCrcLay
import Derived.Deep.LoopGhost
import Derived.Deep.DrawnRows
namespace Go.Proofs.Ytmofbgcanehdoaa.Pg
open Go.RowKit Pk
attribute [local go_sem ↓] Go.wp_at_zero Go.wp_at_succ
/-- a buffer: a cell that holds a slice of the call's own -/
structure Buf (w0 : Nat) (w : World) (gb : Nat) (v : Value) (l : List UInt8) : Prop where
  blk : Blk w gb 62 #[v]
  slc : Slc w 5 1 v l.length (bvs l)
  own : ∀ g ∈ ownB v, w0 ≤ g
  low : w0 ≤ gb
theorem slc_ne {w : World} {e t : TypeId} {size n b : Nat} {v : Value} {l : List Value} {cs : Array Value} (h : Slc w e size v n l) (B : Blk w b t cs) (hne : t ≠ e) : b ∉ ownB v := by
  rcases h.2 with ⟨rfl, _⟩ | ⟨g, cap, rest, rfl, B2, _⟩
  · simp [ownB]
  · intro hb
    simp [ownB] at hb
    subst hb
    exact B.ne_ B2 hne rfl
theorem Buf.below {w0 : Nat} {w w' : World} {gb : Nat} {v : Value} {l : List UInt8} (h : Buf w0 w gb v l) (hb : Below w.heap.size w w') : Buf w0 w' gb v l := ⟨h.blk.below hb h.blk.lt, h.slc.below hb, h.own, h.low⟩
/-- bytes laid behind a buffer's: what the store leaves -/
theorem Buf.grow {w0 : Nat} {w w1 : World} {gb : Nat} {v v' : Value} {l m : List UInt8} (h : Buf w0 w gb v l) (hw : w0 ≤ w.heap.size) (S : Slc w1 5 1 v' (l.length + m.length) (bvs (l ++ m))) (o : Only (ownB v) w w1) (fr : ∀ g ∈ ownB v', g ∈ ownB v ∨ w.heap.size ≤ g) :
    w1.cell? ⟨gb, 0, none⟩ = some v ∧ w1.frozen? ⟨gb, 0, none⟩ = false ∧ Buf w0 (w1.setCell ⟨gb, 0, none⟩ v') gb v' (l ++ m) ∧ Below w0 w (w1.setCell ⟨gb, 0, none⟩ v') := by
  have hn : gb ∉ ownB v := slc_ne h.slc h.blk (by decide)
  have B1 := h.blk.only o hn
  have B2 := B1.set_ 0 v'
  have hn' : gb ∉ ownB v' := slc_ne S B1 (by decide)
  have o2 := (Only.refl [gb] w1).setCell (p := ⟨gb, 0, none⟩) (by simp) v'
  refine ⟨B1.cell_some rfl, B1.frozen 0 (by simp), ⟨B2, ?_, fun g hg => (fr g hg).elim (h.own g) (fun h => Nat.le_trans hw h), h.low⟩, ?_⟩
  · rw [List.length_append]
    exact S.only o2 (fun g hg => by
      intro h1
      rcases List.mem_singleton.1 h1 with rfl
      exact hn' hg)
  · have ow : Only (ownB v ++ [gb]) w (w1.setCell ⟨gb, 0, none⟩ v') := (o.mono (fun x hx _ => List.mem_append_left _ hx)).trans (o2.mono (fun x hx _ => List.mem_append_right _ hx))
    exact ow.below_of hw (fun x hx => (List.mem_append.1 hx).elim (h.own x) (fun h1 => by rcases List.mem_singleton.1 h1 with rfl; exact h.low))
section
attribute [local go_sem ↓] exec_appS
set_option maxRecDepth 100000 in
set_option maxHeartbeats 2000000 in
theorem add_any {w0 : Nat} {w : World} {gb : Nat} {v : Value} {l : List UInt8} (h : Buf w0 w gb v l) (hw : w0 ≤ w.heap.size) (s : ByteArray) (hs : l.length + s.size ≤ 1000000) :
    Calls Try.prog 32 #[.string s, .pointer (some ⟨gb, 0, none⟩)] w fun e w' => e = .returned (.tuple #[]) ∧ (∃ v', Buf w0 w' gb v' (l ++ s.data.toList)) ∧ Below w0 w w' := by
  have c0 : w.cell? ⟨gb, 0, none⟩ = some v := h.blk.cell_some rfl
  obtain ⟨v', w1, ea, S1, ow, fr⟩ := append_str (P := Try.prog) h.slc 62 9 62 Try.underlying62 Try.underlying9 Crc.info_u8 s (by omega)
  have hsz : s.data.toList.length = s.size := by simp
  rw [← bvs_append, ← hsz] at S1
  obtain ⟨V2, vc2, rfl⟩ := slc_val S1
  obtain ⟨c1, z1, B2, O2⟩ := h.grow hw S1 ow fr
  obtain ⟨V1, vc1, rfl⟩ := slc_val h.slc
  have EA := Lib.hid ea
  have BX := Lib.hid B2
  have OX := Lib.hid O2
  clear ea S1 ow fr B2 O2 h hsz
  go_enter Try.func32, Try.ntmps32
  go_wp2_with fail
  rw [EA.out]
  go_wp2_with fail
  go_end0
  exact ⟨rfl, ⟨_, BX.out⟩, OX.out⟩
end
/-- a page's bytes -/
def bodyL (id ep kd : Int) (s : List UInt8) : List UInt8 := packI id ++ packI ep ++ (be8 kd.toNat).drop 4 ++ s
def padL (l : List UInt8) (n : Nat) : List UInt8 := l ++ List.replicate (n - l.length) 0
def pageL (id ep kd : Int) (s : List UInt8) : List UInt8 := Crc.layF (padL (bodyL id ep kd s) 252)
def putF (id ep kd : Int) (s : List UInt8) : List UInt8 × Int := if okP id ep kd = true then (if 232 < s.length then ([], 4) else (pageL id ep kd s, 0)) else ([], 2)
set_option maxRecDepth 100000 in
set_option maxHeartbeats 2000000 in
theorem pput_no {w : World} (id ep kd : Int) (s : ByteArray) (h : okP id ep kd = false) :
    Calls Try.prog 9 #[pageV id ep kd s] w fun e w' => e = .returned (.tuple #[.string ⟨#[]⟩, .int .i64 2]) ∧ Below w.heap.size w w' := by
  have O0 := Lib.hid (belowAlloc (Below.refl w.heap.size w) (.cells #[.int .i64 id, .int .i64 ep, .int .i64 kd, .string s] 23))
  have B0 := Blk.new w 23 #[.int .i64 id, .int .i64 ep, .int .i64 kd, .string s]
  have c0 := B0.cell_some (i := 0) rfl
  have c1 := B0.cell_some (i := 1) rfl
  have c2 := B0.cell_some (i := 2) rfl
  have c3 := B0.cell_some (i := 3) rfl
  have K := Lib.hid (fun w => pright_any (w := w) id ep kd s false h)
  clear h B0
  unfold pageV at *
  go_enter Try.func9, Try.ntmps9
  go_wp2_with fail
  refine (K.out _).mono ?_
  rintro e w1 ⟨rfl, hb1⟩
  have O1 := Lib.hid (bstep O0.out hb1)
  clear hb1
  go_wp2_with fail
  go_ret2
  exact ⟨rfl, O1.out⟩
end Go.Proofs.Ytmofbgcanehdoaa.Pg
