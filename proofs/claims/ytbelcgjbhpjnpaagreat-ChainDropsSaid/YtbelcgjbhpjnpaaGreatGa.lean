/- pages: a string's bytes appended; numbers of any size. -/
import Derived.Test.YtbelcgjbhpjnpaaGreatPa
import Derived.Lib.AppendStr
import Derived.Deep.QuietTactic
import Derived.BigQuiet
import Derived.Test.YtbelcgjbhpjnpaaGreatCa
import Derived.Deep.LoopGhost
import Derived.Deep.DrawnRows
import Derived.Laws.ResultCell
import Derived.Test.YtbelcgjbhpjnpaaGreatKa
import Derived.Deep.RegionHeld3
set_option linter.all false
set_option linter.unusedVariables false
set_option linter.unusedSimpArgs false
set_option maxRecDepth 100000
namespace Go.Proofs.YtbelcgjbhpjnpaaGreat.Pg
open Go.RowKit Pk
/-- append(v, s...) of a string -/
noncomputable def appStr (P : Program) (T U ty : TypeId) (w : World) (s x : Value) : Result Value := (Builtin.append_ #[T, U] ty #[s, x]).run P w
theorem exec_appS (P : Program) (ρ : Operand → Value) (dst : Option Tmp) (s x : Operand) (T U t : TypeId) (p : String) (af : Array Edge) (g : Option (Nat × Bool)) (w : World) :
  (execOp ρ { dst := dst, op := .call { callee := .builtin .append, args := #[s, x], argTypes := #[T, U] }, type := t, pos := p, after := af, guard := g }).run P w = (appStr P T U t w (ρ s) (ρ x)).andThen fun v w' => .ok (.value v) w' := by
 simp [execOp, resolve, invoke, builtin, appStr]
theorem zeroCells_u8 (n : Nat) : (Builtin.zeroCells (Value.int .u8 0).cells n).toList = List.replicate n (Value.int .u8 0) := by
 apply List.ext_getElem
 ·simp [Builtin.zeroCells, Value.cells]
 ·intro i h1 h2
  simp [Builtin.zeroCells, Value.cells, Nat.mod_one]
theorem append_str {P : Program} {w : World} {e : TypeId} {v : Value} {n : Nat} {l : List Value} (h : Slc w e 1 v n l)
  (T U ty : TypeId) (ht : P.underlying T = some (.slice e)) (hu : P.underlying U = some .string) (hinfo : (P.info? e).map (fun i => (i.zero, i.size, i.bytes)) = some (some (.int .u8 0), 1, 1))
  (s : ByteArray) (h63 : n + s.size ≤ 140737488355328) :
  ∃ v' w', appStr P T U ty w v (.string s) = .ok v' w' ∧ Slc w' e 1 v' (n + s.size) (l ++ bvs s.data.toList) ∧ Only (ownB v) w w' ∧ (∀ g ∈ ownB v', g ∈ ownB v ∨ w.heap.size ≤ g) := by
 obtain ⟨i, hi, hz, hsize, hby⟩ := info_parts hinfo
 have hcs : Lib.strCells s = bvs s.data.toList := rfl
 have hlen : (bvs s.data.toList).length = s.size := by simp
 have hll := h.1
 rcases h.2 with ⟨rfl, rfl⟩ | ⟨g, cap, rest, rfl, B, hc, hm⟩
 ·have hnil : l = [] := List.eq_nil_of_length_eq_zero (by simpa using h.1)
  subst hnil
  obtain ⟨v', w', hr, h2, h3, _⟩ := Lib.run_append_own_string (P := P) w w.heap.size T U ty e i ht hu hi hz hsize hby (.slice none 0 0) 0 [] (World.ownsRow_nil _ _ _ _) s (by unfold maxLen; omega) (by omega) (Nat.le_refl _)
  refine ⟨v', w', hr, .of_own h2, (Only.refl _ _).grown h3 (by simp [Value.ownBlock]), ?_⟩
  intro g hg
  rcases h2.2 with ⟨rfl, _⟩ | ⟨g', cap, cur, rfl, hb, _⟩
  ·simp [ownB] at hg
  ·simp [ownB] at hg; subst hg; exact .inr hb
 ·by_cases hr : n + s.size ≤ cap
  ·have hf := Lib.run_firstCells_string (P := P) w 1 s
   have hst := run_storeCells_cells (P := P) g n (bvs s.data.toList) 0 w (fun j hj => by rw [B.cell]; simp at hj ⊢; omega) (fun j hj => B.frozen _ (by simp at hj ⊢; omega)) (bvs_one _)
   refine ⟨.slice (some ⟨g, 0, none⟩) (n + s.size) cap, w.setCells g n (bvs s.data.toList), ?_, ⟨by simp; omega, .inr ⟨g, cap, rest.drop s.size, rfl, ?_, by simp; omega, hm⟩⟩, (Only.refl _ _).setCells _ _ (by simp [ownB]), by simp [ownB]⟩
   ·simp only [Nat.add_zero] at hst
    rw [hcs] at hf
    simp [appStr, Builtin.append_, run_underlying ht, run_underlying hu, sizeOf, typeInfo, hi, hsize, Builtin.lenOf, hr, hf, Addr.add_lit, hst]
   ·have B2 := B.setCells (bvs s.data.toList) n (by simp; omega)
    have e2 : putAt (l ++ rest) n (bvs s.data.toList) = l ++ bvs s.data.toList ++ rest.drop s.size := by
     unfold putAt
     have : l.length = n := by omega
     rw [hlen, ← this, List.take_left, ← List.drop_drop, List.drop_left]
    rwa [e2] at B2
  ·have hrun := Lib.run_append_grow_string (P := P) w T U ty e i (.int .u8 0) ht hu hi hz ⟨g, 0, none⟩ n cap l (by rw [hsize]; exact h.1) (cells_at B 0 l (by intro j u hu; rw [Nat.zero_add]; exact List.getElem?_append_left (List.getElem?_eq_some_iff.1 hu).1 ▸ hu)) s (by omega) (by omega) (by rw [hby]; exact growslice_fits (by omega) (by omega))
   have hge := grownCap_ge w (n + s.size) cap e
   have hcm := grownCap_le_maxLen w (n + s.size) cap e (by unfold maxLen; omega)
   refine ⟨_, _, hrun, ⟨by simp; omega, .inr ⟨w.heap.size, _, List.replicate (grownCap w (n + s.size) cap e - (n + s.size)) (Value.int .u8 0), rfl, ?_, by simp; omega, hcm⟩⟩, (Only.refl _ _).drew.alloc _, by simp [ownB]⟩
   have B3 := Blk.new w.drew e (l.toArray ++ (Lib.strCells s).toArray ++ Builtin.zeroCells (Value.int .u8 0).cells (grownCap w (n + s.size) cap e - (n + s.size)))
   have e3 : l.toArray ++ (Lib.strCells s).toArray ++ Builtin.zeroCells (Value.int .u8 0).cells (grownCap w (n + s.size) cap e - (n + s.size)) = (l ++ bvs s.data.toList ++ List.replicate (grownCap w (n + s.size) cap e - (n + s.size)) (Value.int .u8 0)).toArray := by
    apply Array.toList_inj.1
    simp only [Array.toList_append, hcs]
    congr 1
    exact zeroCells_u8 _
   rw [← e3]
   exact B3
set_option maxRecDepth 100000 in
set_option maxHeartbeats 4000000 in
/-- a number that is not below 0 -/
theorem I_all (m : Nat) (h1 : m < 9223372036854775808) (w : World) :
  Calls Tryz.prog 160 #[.int .i64 (m : Nat)] w fun e w' => e = .returned (.string ⟨(packI m).toArray⟩) ∧ Below w.heap.size w w' := by
 have hN : (((m : Int) + 9223372036854775808) % 18446744073709551616).toNat = m + 9223372036854775808 := by omega
 have hNI : ((m + 9223372036854775808 : Nat) : Int) = (m : Int) + 9223372036854775808 := by omega
 have K := Lib.hid (put_any (m + 9223372036854775808) (by omega) w)
 rw [hNI] at K
 unfold packI
 rw [hN]
 have e1 : IntKind.u64.wrap (m : Int) = (m : Int) := IntWalk.u64_in _ (by omega)
 have e2 : IntKind.u64.wrap ((m : Int) + 9223372036854775808) = (m : Int) + 9223372036854775808 := IntWalk.u64_in _ (by omega)
 clear hN hNI
 go_enter Tryz.func160, Tryz.ntmps160
 go_wp2_with fail
 refine K.out.mono ?_
 rintro e w1 ⟨⟨v, rfl, S⟩, hb⟩
 obtain ⟨g, cap, rest, rfl, B, hc, _⟩ := S.form (by omega) (by omega)
 have ST := Lib.hid (run_string_of (P := Tryz.prog) w1 141 9 5 Tryz.underlying141 Tryz.underlying5 Tryz.underlying9 ⟨g, 0, none⟩ 8 cap (be8 (m + 9223372036854775808)) rfl (cells_at B 0 _ (by intro j u hu; rw [Nat.zero_add]; exact List.getElem?_append_left (List.getElem?_eq_some_iff.1 hu).1 ▸ hu)))
 have HB := Lib.hid hb
 clear hb S B
 go_wp2_with fail
 rw [ST.out]
 go_wp2_with fail
 go_ret
 exact ⟨rfl, HB.out⟩
set_option maxRecDepth 100000 in
set_option maxHeartbeats 4000000 in
theorem U_any (m : Nat) (h1 : m < 18446744073709551616) (w : World) :
  Calls Tryz.prog 212 #[.int .u64 (m : Nat)] w fun e w' => e = .returned (.string ⟨(be8 m).toArray⟩) ∧ Below w.heap.size w w' := by
 have K := Lib.hid (put_any m h1 w)
 go_enter Tryz.func212, Tryz.ntmps212
 go_wp2_with fail
 refine K.out.mono ?_
 rintro e w1 ⟨⟨v, rfl, S⟩, hb⟩
 obtain ⟨g, cap, rest, rfl, B, hc, _⟩ := S.form (by omega) (by omega)
 have ST := Lib.hid (run_string_of (P := Tryz.prog) w1 141 9 5 Tryz.underlying141 Tryz.underlying5 Tryz.underlying9 ⟨g, 0, none⟩ 8 cap (be8 m) rfl (cells_at B 0 _ (by intro j u hu; rw [Nat.zero_add]; exact List.getElem?_append_left (List.getElem?_eq_some_iff.1 hu).1 ▸ hu)))
 have HB := Lib.hid hb
 clear hb S B
 go_wp2_with fail
 rw [ST.out]
 go_wp2_with fail
 go_ret
 exact ⟨rfl, HB.out⟩
/-- a page by value -/
def pageV (id ep kd : Int) (s : ByteArray) : Value := .agg #[.int .i64 id, .int .i64 ep, .int .i64 kd, .string s]
def pageC (id ep kd : Int) (s : ByteArray) : Array Value := #[.int .i64 id, .int .i64 ep, .int .i64 kd, .string s]
/-- a page may be -/
def okP (id ep kd : Int) : Bool := decide (0 ≤ id) && decide (0 ≤ ep) && decide (ep ≤ 1099511627776) && decide (0 ≤ kd) && decide (kd ≤ 2147483647)
theorem okP_iff (id ep kd : Int) : okP id ep kd = true ↔ 0 ≤ id ∧ 0 ≤ ep ∧ ep ≤ 1099511627776 ∧ 0 ≤ kd ∧ kd ≤ 2147483647 := by
 unfold okP
 simp only [Bool.and_eq_true, decide_eq_true_eq]
 omega
theorem belowAlloc {W w1 : World} (h : Below W.heap.size W w1) (o : Obj) : Below W.heap.size W (w1.alloc o) := h.alloc h.size o
set_option maxHeartbeats 2000000 in
theorem pright_any {w : World} (id ep kd : Int) (s : ByteArray) (b : Bool) (hb : okP id ep kd = b) :
  Calls Tryz.prog 195 #[pageV id ep kd s] w fun e w' => e = .returned (.bool b) ∧ Below w.heap.size w w' := by
 have B0 := Blk.new w 55 (pageC id ep kd s)
 have O0 := Lib.hid (belowAlloc (Below.refl w.heap.size w) (.cells (pageC id ep kd s) 55))
 unfold pageC at B0 O0
 have c0 : (w.alloc (.cells #[.int .i64 id, .int .i64 ep, .int .i64 kd, .string s] 55)).cell? ⟨w.heap.size, 0, none⟩ = some (.int .i64 id) := B0.cell_some (i := 0) rfl
 have c1 : (w.alloc (.cells #[.int .i64 id, .int .i64 ep, .int .i64 kd, .string s] 55)).cell? ⟨w.heap.size, 1, none⟩ = some (.int .i64 ep) := B0.cell_some (i := 1) rfl
 have c2 : (w.alloc (.cells #[.int .i64 id, .int .i64 ep, .int .i64 kd, .string s] 55)).cell? ⟨w.heap.size, 2, none⟩ = some (.int .i64 kd) := B0.cell_some (i := 2) rfl
 clear B0
 unfold okP at hb
 have HB := Lib.hid hb
 clear hb
 unfold pageV
 by_cases h1 : 0 ≤ id
 ·by_cases h2 : 0 ≤ ep
  ·by_cases h3 : ep ≤ 1099511627776
   ·by_cases h4 : 0 ≤ kd
    ·by_cases h5 : kd ≤ 2147483647
     all_goals
      go_enter Tryz.func195, Tryz.ntmps195
      go_wp2_with fail
      go_ret
      exact ⟨by rw [← HB.out]; first | (simp [h1, h2, h3, h4, h5]; done) | (simp [h1, h2, h3, h4, h5]; omega), O0.out⟩
    ·go_enter Tryz.func195, Tryz.ntmps195
     go_wp2_with fail
     go_ret
     exact ⟨by rw [← HB.out]; first | (simp [h1, h2, h3, h4]; done) | (simp [h1, h2, h3, h4]; omega), O0.out⟩
   ·go_enter Tryz.func195, Tryz.ntmps195
    go_wp2_with fail
    go_ret
    exact ⟨by rw [← HB.out]; first | (simp [h1, h2, h3]; done) | (simp [h1, h2, h3]; omega), O0.out⟩
  ·go_enter Tryz.func195, Tryz.ntmps195
   go_wp2_with fail
   go_ret
   exact ⟨by rw [← HB.out]; first | (simp [h1, h2]; done) | (simp [h1, h2]; omega), O0.out⟩
 ·go_enter Tryz.func195, Tryz.ntmps195
  go_wp2_with fail
  go_ret
  exact ⟨by rw [← HB.out]; first | (simp [h1]; done) | (simp [h1]; omega), O0.out⟩
end Go.Proofs.YtbelcgjbhpjnpaaGreat.Pg

/- pages: a page laid. -/
namespace Go.Proofs.YtbelcgjbhpjnpaaGreat.Pg
open Go.RowKit Pk
attribute [local go_sem ↓] Go.wp_at_zero Go.wp_at_succ
/-- a buffer: a cell that holds a slice of the call's own -/
structure Buf (w0 : Nat) (w : World) (gb : Nat) (v : Value) (l : List UInt8) : Prop where
 blk : Blk w gb 141 #[v]
 slc : Slc w 5 1 v l.length (bvs l)
 own : ∀ g ∈ ownB v, w0 ≤ g
 low : w0 ≤ gb
theorem slc_ne {w : World} {e t : TypeId} {size n b : Nat} {v : Value} {l : List Value} {cs : Array Value} (h : Slc w e size v n l) (B : Blk w b t cs) (hne : t ≠ e) : b ∉ ownB v := by
 rcases h.2 with ⟨rfl, _⟩ | ⟨g, cap, rest, rfl, B2, _⟩
 ·simp [ownB]
 ·intro hb
  simp [ownB] at hb
  subst hb
  exact B.ne_ B2 hne rfl
theorem Buf.below {w0 : Nat} {w w' : World} {gb : Nat} {v : Value} {l : List UInt8} (h : Buf w0 w gb v l) (hb : Below w.heap.size w w') : Buf w0 w' gb v l := ⟨h.blk.below hb h.blk.lt, h.slc.below hb, h.own, h.low⟩
/-- bytes laid behind a buffer's: what the store leaves -/
theorem Buf.grow {w0 : Nat} {w w1 : World} {gb : Nat} {v v' : Value} {l m : List UInt8} (h : Buf w0 w gb v l) (hw : w0 ≤ w.heap.size) (S : Slc w1 5 1 v' (l.length + m.length) (bvs (l ++ m))) (o : Only (ownB v) w w1) (fr : ∀ g ∈ ownB v', g ∈ ownB v ∨ w.heap.size ≤ g) :
  w1.cell? ⟨gb, 0, none⟩ = some v ∧ w1.frozen? ⟨gb, 0, none⟩ = false ∧ Buf w0 (w1.setCell ⟨gb, 0, none⟩ v') gb v' (l ++ m) ∧ Below w0 w (w1.setCell ⟨gb, 0, none⟩ v') := by
 have hn : gb ∉ ownB v := slc_ne h.slc h.blk (by decide)
 have B1 := h.blk.only o hn
 have B2 := B1.set_ 0 v'
 have hn' : gb ∉ ownB v' := slc_ne S B1 (by decide)
 have o2 := (Only.refl [gb] w1).setCell (p := ⟨gb, 0, none⟩) (by simp) v'
 refine ⟨B1.cell_some rfl, B1.frozen 0 (by simp), ⟨B2, ?_, fun g hg => (fr g hg).elim (h.own g) (fun h => Nat.le_trans hw h), h.low⟩, ?_⟩
 ·rw [List.length_append]
  exact S.only o2 (fun g hg => by
   intro h1
   rcases List.mem_singleton.1 h1 with rfl
   exact hn' hg)
 ·have ow : Only (ownB v ++ [gb]) w (w1.setCell ⟨gb, 0, none⟩ v') := (o.mono (fun x hx _ => List.mem_append_left _ hx)).trans (o2.mono (fun x hx _ => List.mem_append_right _ hx))
  exact ow.below_of hw (fun x hx => (List.mem_append.1 hx).elim (h.own x) (fun h1 => by rcases List.mem_singleton.1 h1 with rfl; exact h.low))
section
attribute [local go_sem ↓] exec_appS
set_option maxRecDepth 100000 in
set_option maxHeartbeats 2000000 in
theorem add_any {w0 : Nat} {w : World} {gb : Nat} {v : Value} {l : List UInt8} (h : Buf w0 w gb v l) (hw : w0 ≤ w.heap.size) (s : ByteArray) (hs : l.length + s.size ≤ 1000000) :
  Calls Tryz.prog 211 #[.string s, .pointer (some ⟨gb, 0, none⟩)] w fun e w' => e = .returned (.tuple #[]) ∧ (∃ v', Buf w0 w' gb v' (l ++ s.data.toList)) ∧ Below w0 w w' := by
 have c0 : w.cell? ⟨gb, 0, none⟩ = some v := h.blk.cell_some rfl
 obtain ⟨v', w1, ea, S1, ow, fr⟩ := append_str (P := Tryz.prog) h.slc 141 9 141 Tryz.underlying141 Tryz.underlying9 Crc.info_u8 s (by omega)
 have hsz : s.data.toList.length = s.size := by simp
 rw [← bvs_append, ← hsz] at S1
 obtain ⟨V2, vc2, rfl⟩ := slc_val S1
 obtain ⟨c1, z1, B2, O2⟩ := h.grow hw S1 ow fr
 obtain ⟨V1, vc1, rfl⟩ := slc_val h.slc
 have EA := Lib.hid ea
 have BX := Lib.hid B2
 have OX := Lib.hid O2
 clear ea S1 ow fr B2 O2 h hsz
 go_enter Tryz.func211, Tryz.ntmps211
 go_wp2_with fail
 rw [EA.out]
 go_wp2_with fail
 go_end0
 exact ⟨rfl, ⟨_, BX.out⟩, OX.out⟩
end
/-- a page's bytes -/
def bodyL (id ep kd : Int) (s : List UInt8) : List UInt8 := packI id ++ packI ep ++ (be8 kd.toNat).drop 4 ++ s
def padL (l : List UInt8) (n : Nat) : List UInt8 := l ++ List.replicate (n - l.length) 0
def pageL (id ep kd : Int) (s : List UInt8) : List UInt8 := Crc.layF (padL (bodyL id ep kd s) 252)
def putF (id ep kd : Int) (s : List UInt8) : List UInt8 × Int := if okP id ep kd = true then (if 232 < s.length then ([], 4) else (pageL id ep kd s, 0)) else ([], 2)
set_option maxRecDepth 100000 in
set_option maxHeartbeats 2000000 in
theorem pput_no {w : World} (id ep kd : Int) (s : ByteArray) (h : okP id ep kd = false) :
  Calls Tryz.prog 201 #[pageV id ep kd s] w fun e w' => e = .returned (.tuple #[.string ⟨#[]⟩, .int .i64 2]) ∧ Below w.heap.size w w' := by
 have O0 := Lib.hid (belowAlloc (Below.refl w.heap.size w) (.cells #[.int .i64 id, .int .i64 ep, .int .i64 kd, .string s] 55))
 have B0 := Blk.new w 55 #[.int .i64 id, .int .i64 ep, .int .i64 kd, .string s]
 have c0 := B0.cell_some (i := 0) rfl
 have c1 := B0.cell_some (i := 1) rfl
 have c2 := B0.cell_some (i := 2) rfl
 have c3 := B0.cell_some (i := 3) rfl
 have K := Lib.hid (fun w => pright_any (w := w) id ep kd s false h)
 clear h B0
 unfold pageV at *
 go_enter Tryz.func201, Tryz.ntmps201
 go_wp2_with fail
 refine (K.out _).mono ?_
 rintro e w1 ⟨rfl, hb1⟩
 have O1 := Lib.hid (bstep O0.out hb1)
 clear hb1
 go_wp2_with fail
 go_ret2
 exact ⟨rfl, O1.out⟩
end Go.Proofs.YtbelcgjbhpjnpaaGreat.Pg

/- pages: a page laid, whole. -/
namespace Go.Proofs.YtbelcgjbhpjnpaaGreat.Pg
open Go.RowKit Pk
attribute [local go_sem ↓] Go.wp_at_zero Go.wp_at_succ exec_app
theorem packI_len (n : Int) : (packI n).length = 8 := by unfold packI be8; rw [beK_length]
theorem exl (u : ByteArray) (a b : Nat) : (u.extract a b).data.toList = (u.data.toList.drop a).take (b - a) := by
 rw [ByteArray.data_extract, Array.toList_extract, List.extract_eq_take_drop]
theorem be8_len (n : Nat) : (be8 n).length = 8 := by unfold be8; rw [beK_length]
theorem str_size (l : List UInt8) : (⟨l.toArray⟩ : ByteArray).size = l.length := by show l.toArray.size = _; simp
set_option maxRecDepth 100000 in
set_option maxHeartbeats 8000000 in
theorem pput_yes {w : World} (id ep kd : Nat) (s : ByteArray) (hid : id < 9223372036854775808) (hep : ep ≤ 1099511627776) (hkd : kd ≤ 2147483647) (hs : s.size ≤ 232) :
  Calls Tryz.prog 201 #[pageV id ep kd s] w fun e w' => e = .returned (.tuple #[.string ⟨(pageL id ep kd s.data.toList).toArray⟩, .int .i64 0]) ∧ Below w.heap.size w w' := by
 have hok : okP id ep kd = true := by rw [okP_iff]; omega
 have B0 := Blk.new w 55 #[.int .i64 (id : Nat), .int .i64 (ep : Nat), .int .i64 (kd : Nat), .string s]
 have O0 := Lib.hid (belowAlloc (Below.refl w.heap.size w) (.cells #[.int .i64 (id : Nat), .int .i64 (ep : Nat), .int .i64 (kd : Nat), .string s] 55))
 have KR := Lib.hid (fun w => pright_any (w := w) id ep kd s true hok)
 have c0 := B0.cell_some (i := 0) rfl
 have c1 := B0.cell_some (i := 1) rfl
 have c2 := B0.cell_some (i := 2) rfl
 have c3 := B0.cell_some (i := 3) rfl
 have B0 := Lib.hid B0
 have hsI : ¬ (232 : Int) < (s.size : Int) := by omega
 unfold pageV at *
 go_enter Tryz.func201, Tryz.ntmps201
 go_wp2_with fail
 refine (KR.out _).mono ?_
 rintro e w1 ⟨rfl, hb1⟩
 have O1 := Lib.hid (bstep O0.out hb1)
 have B1 := Lib.hid (B0.out.below hb1 B0.out.lt)
 have a1 := O1.out.size
 have a2 : w.heap.size < w1.heap.size := B1.out.lt
 clear c0 c1 c2 c3 hb1 B0 O0
 have c3 := B1.out.cell_some (i := 3) rfl
 -- the buffer
 have B2 := Lib.hid (B1.out.alloc (.cells #[.slice none 0 0] 141))
 have O2 := Lib.hid (belowAlloc O1.out (.cells #[.slice none 0 0] 141))
 have F2 : Hid (Buf w1.heap.size (w1.alloc (.cells #[.slice none 0 0] 141)) w1.heap.size (.slice none 0 0) []) := Lib.hid ⟨Blk.new _ _ _, Slc.nil _ _ _, by simp [ownB], Nat.le_refl _⟩
 have z2 : w1.heap.size ≤ (w1.alloc (.cells #[.slice none 0 0] 141)).heap.size := by simp
 have d0 := B2.out.cell_some (i := 0) rfl
 have KI := Lib.hid (I_all id hid)
 have KE := Lib.hid (I_all ep (by omega))
 have KU := Lib.hid (U_any kd (by omega))
 have HS := Lib.hid hs
 go_wp2_with fail
 refine (KI.out _).mono ?_
 rintro e w3 ⟨rfl, hb3⟩
 have O3 := Lib.hid (bstep O2.out hb3)
 have B3 := Lib.hid (B2.out.below hb3 B2.out.lt)
 have F3 := Lib.hid (F2.out.below hb3)
 have z3 := Nat.le_trans z2 hb3.size
 clear d0 hb3 B2 O2 F2 z2 c3
 go_wp2_with fail
 refine (add_any F3.out z3 _ (by rw [str_size, packI_len]; simp)).mono ?_
 rintro e w4 ⟨rfl, ⟨v4, f4⟩, hb4⟩
 have O4 := Lib.hid (O3.out.trans (hb4.mono a1))
 have B4 := Lib.hid (B3.out.below hb4 a2)
 have F4 := Lib.hid f4
 have z4 := Nat.le_trans z3 hb4.size
 clear f4 hb4 O3 B3 F3 z3
 have d1 := B4.out.cell_some (i := 1) rfl
 go_wp2_with fail
 refine (KE.out _).mono ?_
 rintro e w5 ⟨rfl, hb5⟩
 have O5 := Lib.hid (bstep O4.out hb5)
 have B5 := Lib.hid (B4.out.below hb5 B4.out.lt)
 have F5 := Lib.hid (F4.out.below hb5)
 have z5 := Nat.le_trans z4 hb5.size
 clear hb5 O4 B4 F4 z4
 clear d1
 go_wp2_with fail
 refine (add_any F5.out z5 _ (by simp [packI_len, str_size])).mono ?_
 rintro e w6 ⟨rfl, ⟨v6, f6⟩, hb6⟩
 have O6 := Lib.hid (O5.out.trans (hb6.mono a1))
 have B6 := Lib.hid (B5.out.below hb6 a2)
 have F6 := Lib.hid f6
 have z6 := Nat.le_trans z5 hb6.size
 clear f6 hb6 O5 B5 F5 z5
 have d2 := B6.out.cell_some (i := 2) rfl
 have q1 : IntKind.u64.wrap (kd : Int) = (kd : Int) := IntWalk.u64_in _ (by omega)
 obtain ⟨U, hU⟩ : ∃ U : ByteArray, (⟨(be8 kd).toArray⟩ : ByteArray) = U := ⟨_, rfl⟩
 have hU8 : U.size = 8 := by rw [← hU, str_size, be8_len]
 have hUl : (U.extract 4 8).data.toList = (be8 kd).drop 4 := by
  rw [← hU, exl]
  exact List.take_of_length_le (by rw [List.length_drop]; have := be8_len kd; simp [this])
 rw [hU] at KU
 have HU := Lib.hid hU
 have HUL := Lib.hid hUl
 clear hU hUl
 go_wp2_with fail
 refine (KU.out _).mono ?_
 rintro e w7 ⟨rfl, hb7⟩
 have O7 := Lib.hid (bstep O6.out hb7)
 have B7 := Lib.hid (B6.out.below hb7 B6.out.lt)
 have F7 := Lib.hid (F6.out.below hb7)
 have z7 := Nat.le_trans z6 hb7.size
 clear hb7 O6 B6 F6 z6
 clear d2
 go_wp2_with fail
 refine (add_any F7.out z7 _ (by simp [packI_len, str_size, ByteArray.size_extract]; omega)).mono ?_
 rintro e w8 ⟨rfl, ⟨v8, f8⟩, hb8⟩
 have O8 := Lib.hid (O7.out.trans (hb8.mono a1))
 have B8 := Lib.hid (B7.out.below hb8 a2)
 have F8 := Lib.hid f8
 have z8 := Nat.le_trans z7 hb8.size
 clear f8 hb8 O7 B7 F7 z7
 have d3 := B8.out.cell_some (i := 3) rfl
 go_wp2_with fail
 refine (add_any F8.out z8 _ (by simp [packI_len, str_size, ByteArray.size_extract]; omega)).mono ?_
 rintro e w9 ⟨rfl, ⟨v9, f9⟩, hb9⟩
 have O9 := Lib.hid (O8.out.trans (hb9.mono a1))
 have B9 := Lib.hid (B8.out.below hb9 a2)
 have F9 := Lib.hid f9
 have z9 := Nat.le_trans z8 hb9.size
 clear f9 hb9 O8 B8 F8 z8
 clear d3
 have L9 := Lib.hid (show ([] ++ packI (id : Int) ++ packI (ep : Int) ++ (U.extract 4 8).data.toList ++ s.data.toList) = bodyL id ep kd s.data.toList from by rw [HUL.out, List.nil_append]; rfl)
 have F9 := Lib.hid (show Buf w1.heap.size w9 w1.heap.size v9 (bodyL id ep kd s.data.toList) from by have h := F9.out; rw [← L9.out]; exact h)
 have HB := Lib.hid (show (bodyL id ep kd s.data.toList).length = 20 + s.size from by unfold bodyL; simp [packI_len, be8_len]; omega)
 obtain ⟨L, hL⟩ : ∃ L, bodyL (id : Int) ep kd s.data.toList = L := ⟨_, rfl⟩
 rw [hL] at F9 HB
 have HL := Lib.hid hL
 clear hL
 clear L9 HU HUL hU8 KI KE KU KR
 go_wp2_with fail
 go_loopg [37] 253 (fun k lv wr => ∃ v j, 20 + s.size + j ≤ 252 ∧ 253 - (20 + s.size + j) ≤ k ∧ Hid (Buf w1.heap.size wr w1.heap.size v (L ++ List.replicate j 0)) ∧ Hid (Below w.heap.size w wr) ∧ w1.heap.size ≤ wr.heap.size)
 case atStart => exact ⟨v9, 0, by omega, by omega, Lib.hid (by rw [List.replicate_zero, List.append_nil]; exact F9.out), Lib.hid O9.out, z9⟩
 case round =>
  obtain ⟨v, j, hj, hk, F, O, z⟩ := hrel
  have hlen : (L ++ List.replicate j 0).length = 20 + s.size + j := by rw [List.length_append, HB.out, List.length_replicate]
  have e0 := F.out.blk.cell_some (i := 0) rfl
  have hsv := F.out.slc
  rw [hlen] at hsv
  obtain ⟨VA, vc, rfl⟩ := slc_val hsv
  by_cases h' : 20 + s.size + j < 252
  ·have hI : ((20 + s.size + j : Nat) : Int) < 252 := by omega
   obtain ⟨v', w2, ea, S2, ow, fr⟩ := append_one (P := Tryz.prog) hsv 141 141 (.int .u8 0) 1 Tryz.underlying141 Crc.info_u8 rfl (.int .u8 0) rfl (by unfold maxLen; omega) (by omega)
   obtain ⟨V2, vc2, rfl⟩ := slc_val S2
   have S3 : Slc w2 5 1 (.slice V2 (20 + s.size + j + 1) vc2) ((L ++ List.replicate j 0).length + [(0 : UInt8)].length) (bvs (L ++ List.replicate j 0 ++ [0])) := by
    rw [hlen, bvs_append]; exact S2
   obtain ⟨c1, z1, B2, O2⟩ := F.out.grow z S3 ow fr
   have z2 : w1.heap.size ≤ (w2.setCell ⟨w1.heap.size, 0, none⟩ (.slice V2 (20 + s.size + j + 1) vc2)).heap.size := by
    have := ow.size; simp [World.setCell]; omega
   have EA := Lib.hid ea
   have BX := Lib.hid (show Buf w1.heap.size (w2.setCell ⟨w1.heap.size, 0, none⟩ (.slice V2 (20 + s.size + j + 1) vc2)) w1.heap.size (.slice V2 (20 + s.size + j + 1) vc2) (L ++ List.replicate (j + 1) 0) from by
    rw [List.replicate_succ', ← List.append_assoc]; exact B2)
   have OX := Lib.hid (O.out.trans (O2.mono a1))
   clear ea S2 S3 ow fr B2 O2 hsv hlen
   go_wp2_with fail
   rw [EA.out]
   go_wp2_with fail
   go_roundg (253 - (20 + s.size + (j + 1)))
   case measure => omega
   case rel => exact ⟨_, j + 1, by omega, Nat.le_refl _, BX, OX, z2⟩
  ·have hje : 20 + s.size + j = 252 := by omega
   have hpad : L ++ List.replicate j 0 = padL L 252 := by unfold padL; rw [HB.out]; congr 2; omega
   rw [hpad] at F
   have hpl : (padL L 252).length = 252 := by rw [← hpad, hlen, hje]
   rw [hje] at e0 hsv
   rw [hpad] at hsv
   clear hpad hlen
   obtain ⟨g, cap, rest, hv, B, _⟩ := hsv.form (by omega) (by omega)
   injection hv with hv1 hv2 hv3
   subst hv1 hv3
   have ST := Lib.hid (run_string_of (P := Tryz.prog) wr 141 9 5 Tryz.underlying141 Tryz.underlying5 Tryz.underlying9 ⟨g, 0, none⟩ 252 vc (padL L 252) hpl (cells_at B 0 _ (by intro j u hu; rw [Nat.zero_add]; exact List.getElem?_append_left (List.getElem?_eq_some_iff.1 hu).1 ▸ hu)))
   have KL := Lib.hid (Crc.lay_any ⟨(padL L 252).toArray⟩ wr (by rw [str_size, hpl]; omega))
   have HF := Lib.hid (show Crc.layF (padL L 252) = pageL id ep kd s.data.toList from by unfold pageL; rw [HL.out])
   clear F B hsv hpl
   go_wp2_with fail
   rw [ST.out]
   go_wp2_with fail
   refine KL.out.mono ?_
   rintro e wz ⟨rfl, hbz⟩
   have OZ := Lib.hid (bstep O.out hbz)
   clear hbz
   go_wp2_with fail
   go_ret2
   exact ⟨by rw [← HF.out]; rfl, OZ.out⟩
end Go.Proofs.YtbelcgjbhpjnpaaGreat.Pg

/- pages: a page read. -/
namespace Go.Proofs.YtbelcgjbhpjnpaaGreat.Pg
open Go.RowKit Pk
attribute [local go_sem ↓] Go.wp_at_zero Go.wp_at_succ
/-- a page's fields -/
structure PG where
 id : Int
 ep : Int
 kd : Int
 s : List UInt8
def PG.zero : PG := ⟨0, 0, 0, []⟩
def PG.val (p : PG) : Value := pageV p.id p.ep p.kd ⟨p.s.toArray⟩
/-- what bytes say -/
def decG (l : List UInt8) : PG := ⟨(beN ((l.drop 4).take 8) : Int) - 9223372036854775808, (beN ((l.drop 12).take 8) : Int) - 9223372036854775808, (beN ((l.drop 20).take 4) : Nat), l.drop 24⟩
def gotF (l : List UInt8) : PG × Int :=
 if l.length ≠ 256 then (.zero, 6)
 else if Crc.fourL (Crc.sumF (l.drop 4)) ≠ l.take 4 then (.zero, 14)
 else if okP (decG l).id (decG l).ep (decG l).kd = true then (decG l, 0) else (.zero, 14)
theorem beN_zero4 (l : List UInt8) : beN ([0, 0, 0, 0] ++ l) = beN l := by simp [beN]
theorem results_cell_p {fn : Func} {p u : Tmp} {w : World} {g : Nat} {id ep kd : Int} {s : ByteArray} {tmps : Array Value} (h : fn.results = #[.cell p 55, .tmp u]) (hp : tmps.getD p undef = .pointer (some ⟨g, 0, none⟩)) (B : Blk w g 55 #[.int .i64 id, .int .i64 ep, .int .i64 kd, .string s]) :
  (results fn tmps).run Tryz.prog w = .ok (.tuple #[pageV id ep kd s, tmps.getD u undef]) w := by
 have c0 := B.cell_some (i := 0) rfl
 have c1 := B.cell_some (i := 1) rfl
 have c2 := B.cell_some (i := 2) rfl
 have c3 := B.cell_some (i := 3) rfl
 rw [results_cell_tmp h, hp]
 clear h hp B
 unfold pageV
 go_simp
/-- a page's cell, from the call's beginning -/
abbrev zeroC : Array Value := #[.int .i64 0, .int .i64 0, .int .i64 0, .string ⟨#[]⟩]
/-- what a store of a page leaves -/
theorem storeP {w : World} {g : Nat} {cs : Array Value} (B : Blk w g 55 cs) (hc : cs.size = 4) (id ep kd : Int) (s : ByteArray) :
  Blk ((((w.setCell ⟨g, 0, none⟩ (.int .i64 id)).setCell ⟨g, 1, none⟩ (.int .i64 ep)).setCell ⟨g, 2, none⟩ (.int .i64 kd)).setCell ⟨g, 3, none⟩ (.string s)) g 55 #[.int .i64 id, .int .i64 ep, .int .i64 kd, .string s] := by
 obtain ⟨a, b, c, d, rfl⟩ : ∃ a b c d, cs = #[a, b, c, d] := by
  obtain ⟨l⟩ := cs
  match l, hc with
  | [a, b, c, d], _ => exact ⟨a, b, c, d, rfl⟩
 exact (((B.set_ 0 (.int .i64 id)).set_ 1 (.int .i64 ep)).set_ 2 (.int .i64 kd)).set_ 3 (.string s)
theorem storeP_below {W w : World} {g : Nat} (h : Below W.heap.size W w) (hg : W.heap.size ≤ g) (id ep kd : Int) (s : ByteArray) :
  Below W.heap.size W ((((w.setCell ⟨g, 0, none⟩ (.int .i64 id)).setCell ⟨g, 1, none⟩ (.int .i64 ep)).setCell ⟨g, 2, none⟩ (.int .i64 kd)).setCell ⟨g, 3, none⟩ (.string s)) :=
 (((h.setCell (p := ⟨g, 0, none⟩) hg _).setCell (p := ⟨g, 1, none⟩) hg _).setCell (p := ⟨g, 2, none⟩) hg _).setCell (p := ⟨g, 3, none⟩) hg _
set_option maxRecDepth 100000 in
set_option maxHeartbeats 2000000 in
theorem pget_len {w : World} (s : ByteArray) (h : s.size ≠ 256) :
  Calls Tryz.prog 153 #[.string s] w fun e w' => e = .returned (.tuple #[PG.zero.val, .int .i64 6]) ∧ Below w.heap.size w w' := by
 have B0 := Lib.hid (Blk.new w 55 zeroC)
 have O0 := Lib.hid (belowAlloc (Below.refl w.heap.size w) (.cells zeroC 55))
 have hI : ((s.size : Int) != 256) = true := by rw [bne_iff_ne]; omega
 go_enter Tryz.func153, Tryz.ntmps153
 go_wp2_with fail
 exact bodyPost_ret (results_cell_p rfl rfl B0.out) rfl ⟨rfl, O0.out⟩
set_option maxRecDepth 100000 in
set_option maxHeartbeats 2000000 in
theorem pget_corrupt {w : World} (s : ByteArray) (h : s.size = 256) (hc : Crc.fourL (Crc.sumF (s.data.toList.drop 4)) ≠ s.data.toList.take 4) :
  Calls Tryz.prog 153 #[.string s] w fun e w' => e = .returned (.tuple #[PG.zero.val, .int .i64 14]) ∧ Below w.heap.size w w' := by
 have B0 := Lib.hid (Blk.new w 55 zeroC)
 have O0 := Lib.hid (belowAlloc (Below.refl w.heap.size w) (.cells zeroC 55))
 have hI : ((s.size : Int) != 256) = false := by rw [bne_eq_false_iff_eq]; omega
 have K := Lib.hid (fun w => Crc.cut_corrupt s w (by omega) (by unfold maxLen; omega) hc)
 clear hc
 go_enter Tryz.func153, Tryz.ntmps153
 go_wp2_with fail
 refine (K.out _).mono ?_
 rintro e w1 ⟨rfl, hb1⟩
 have O1 := Lib.hid (bstep O0.out hb1)
 have B1 := Lib.hid (B0.out.below hb1 B0.out.lt)
 clear hb1
 have z0 := B1.out.frozen 0 (by simp)
 have z1 := B1.out.frozen 1 (by simp)
 have z2 := B1.out.frozen 2 (by simp)
 have z3 := B1.out.frozen 3 (by simp)
 have c0 := B1.out.cell_some (i := 0) rfl
 have c1 := B1.out.cell_some (i := 1) rfl
 have c2 := B1.out.cell_some (i := 2) rfl
 have c3 := B1.out.cell_some (i := 3) rfl
 have ZB := Lib.hid (storeP B1.out rfl 0 0 0 ⟨#[]⟩)
 have ZO := Lib.hid (storeP_below O1.out (Nat.le_refl _) 0 0 0 ⟨#[]⟩)
 go_wp2_with fail
 exact bodyPost_ret (results_cell_p rfl rfl ZB.out) rfl ⟨rfl, ZO.out⟩
set_option maxRecDepth 100000 in
set_option maxHeartbeats 4000000 in
theorem pget_sound {w : World} (s : ByteArray) (h : s.size = 256) (hc : Crc.fourL (Crc.sumF (s.data.toList.drop 4)) = s.data.toList.take 4) (b : Bool) (hb : okP (decG s.data.toList).id (decG s.data.toList).ep (decG s.data.toList).kd = b) :
  Calls Tryz.prog 153 #[.string s] w fun e w' => e = .returned (.tuple #[if b then (decG s.data.toList).val else PG.zero.val, .int .i64 (if b then 0 else 14)]) ∧ Below w.heap.size w w' := by
 have B0 := Lib.hid (Blk.new w 55 zeroC)
 have O0 := Lib.hid (belowAlloc (Below.refl w.heap.size w) (.cells zeroC 55))
 have hI : ((s.size : Int) != 256) = false := by rw [bne_eq_false_iff_eq]; omega
 have K := fun w => Crc.cut_ok s w (by omega) (by unfold maxLen; omega) hc
 obtain ⟨T, hT⟩ : ∃ T, s.extract 4 s.size = T := ⟨_, rfl⟩
 rw [hT] at K
 have hTs : T.size = 252 := by rw [← hT, ByteArray.size_extract]; omega
 have hTl : T.data.toList = s.data.toList.drop 4 := by rw [← hT, exl]; exact List.take_of_length_le (by simp)
 have K := Lib.hid K
 have KI := Lib.hid (readI_any T 0 (h1 := by omega) (hs := by omega))
 have KJ := Lib.hid (readI_any T 8 (h1 := by omega) (hs := by omega))
 obtain ⟨U, hU⟩ : ∃ U, (⟨#[0, 0, 0, 0]⟩ : ByteArray) ++ T.extract 16 20 = U := ⟨_, rfl⟩
 have hUs : U.size = 8 := by rw [← hU, ByteArray.size_append, ByteArray.size_extract]; show 4 + _ = 8; omega
 have KU := Lib.hid (readU_any U 0 (h1 := by omega) (hs := by omega))
 have hUl : U.data.toList = [0, 0, 0, 0] ++ (s.data.toList.drop 20).take 4 := by
  rw [← hU, ByteArray.data_append, Array.toList_append, exl, hTl, List.drop_drop]
 obtain ⟨P, hP⟩ : ∃ P, T.extract 20 252 = P := ⟨_, rfl⟩
 have hPl : P.data.toList = s.data.toList.drop 24 := by
  rw [← hP, exl, hTl, List.drop_drop]; exact List.take_of_length_le (by simp; omega)
 obtain ⟨N, hN⟩ : ∃ N, beN ((s.data.toList.drop 20).take 4) = N := ⟨_, rfl⟩
 have hNlt : N < 4294967296 := by
  have h1 := beN_lt ((s.data.toList.drop 20).take 4)
  have h2 : ((s.data.toList.drop 20).take 4).length = 4 := by simp; omega
  rw [h2, hN] at h1
  omega
 have e1 : ((beN (T.extract 0 (0 + 8)).data.toList : Nat) : Int) - 9223372036854775808 = (decG s.data.toList).id := by rw [exl, hTl]; rfl
 have e2 : ((beN (T.extract 8 (8 + 8)).data.toList : Nat) : Int) - 9223372036854775808 = (decG s.data.toList).ep := by rw [exl, hTl, List.drop_drop]; rfl
 have e3 : beN (U.extract 0 (0 + 8)).data.toList = N := by
  rw [exl, List.drop_zero, List.take_of_length_le (by simp; omega), hUl, beN_zero4, hN]
 rw [e1] at KI
 rw [e2] at KJ
 rw [e3] at KU
 have hkd : (decG s.data.toList).kd = (N : Int) := by rw [← hN]; rfl
 have HV := Lib.hid (show (decG s.data.toList).val = pageV (decG s.data.toList).id (decG s.data.toList).ep N P from by
  have : P = ⟨(decG s.data.toList).s.toArray⟩ := by
   have : P.data = (s.data.toList.drop 24).toArray := by rw [← hPl]
   cases P; simp only at this; subst this; rfl
  rw [this, ← hkd]; rfl)
 have i1 : -9223372036854775808 ≤ (decG s.data.toList).id ∧ (decG s.data.toList).id ≤ 9223372036854775807 := by
  have h1 := beN_lt ((s.data.toList.drop 4).take 8)
  have h2 : ((s.data.toList.drop 4).take 8).length = 8 := by simp; omega
  rw [h2] at h1
  show -9223372036854775808 ≤ ((beN _ : Nat) : Int) - 9223372036854775808 ∧ ((beN _ : Nat) : Int) - 9223372036854775808 ≤ 9223372036854775807
  omega
 rw [hkd] at hb
 generalize (decG s.data.toList).id = id at *
 generalize (decG s.data.toList).ep = ep at *
 generalize (decG s.data.toList).val = V at *
 have q1 : IntKind.i64.wrap (N : Int) = (N : Int) := IntWalk.i64_in _ (by omega)
 have KR := Lib.hid (fun w => pright_any (w := w) id ep N P b hb)
 unfold pageV at KR
 clear hc hT hb e1 e2 e3 hkd hN hUl hTl hPl
 go_enter Tryz.func153, Tryz.ntmps153
 go_wp2_with fail
 refine (K.out _).mono ?_
 rintro e w1 ⟨rfl, hb1⟩
 have O1 := Lib.hid (bstep O0.out hb1)
 have B1 := Lib.hid (B0.out.below hb1 B0.out.lt)
 clear hb1 O0 B0
 go_wp2_with fail
 refine (KI.out _).mono ?_
 rintro e w2 ⟨rfl, hb2⟩
 have O2 := Lib.hid (bstep O1.out hb2)
 have B2 := Lib.hid (B1.out.below hb2 B1.out.lt)
 clear hb2 O1 B1
 go_wp2_with fail
 refine (KJ.out _).mono ?_
 rintro e w3 ⟨rfl, hb3⟩
 have O3 := Lib.hid (bstep O2.out hb3)
 have B3 := Lib.hid (B2.out.below hb3 B2.out.lt)
 clear hb3 O2 B2
 go_wp2_with fail
 refine (KU.out _).mono ?_
 rintro e w4 ⟨rfl, hb4⟩
 have O4 := Lib.hid (belowAlloc (bstep O3.out hb4) (.cells #[.int .i64 id, .int .i64 ep, .int .i64 (N : Int), .string P] 55))
 have B4 := Lib.hid ((B3.out.below hb4 B3.out.lt).alloc (.cells #[.int .i64 id, .int .i64 ep, .int .i64 (N : Int), .string P] 55))
 have P4 := Lib.hid (Blk.new w4 55 #[.int .i64 id, .int .i64 ep, .int .i64 (N : Int), .string P])
 clear hb4 O3 B3
 go_wp2_with fail
 generalize hw5 : w4.alloc (.cells #[.int .i64 id, .int .i64 ep, .int .i64 (N : Int), .string P] 55) = w5 at *
 clear hw5
 refine (KR.out _).mono ?_
 rintro e w6 ⟨rfl, hb6⟩
 have O6 := Lib.hid (bstep O4.out hb6)
 have B6 := Lib.hid (B4.out.below hb6 B4.out.lt)
 have P6 := Lib.hid (P4.out.below hb6 P4.out.lt)
 have z0 := B6.out.frozen 0 (by simp)
 have z1 := B6.out.frozen 1 (by simp)
 have z2 := B6.out.frozen 2 (by simp)
 have z3 := B6.out.frozen 3 (by simp)
 have c0 := B6.out.cell_some (i := 0) rfl
 have c1 := B6.out.cell_some (i := 1) rfl
 have c2 := B6.out.cell_some (i := 2) rfl
 have c3 := B6.out.cell_some (i := 3) rfl
 have p0 := P6.out.cell_some (i := 0) rfl
 have p1 := P6.out.cell_some (i := 1) rfl
 have p2 := P6.out.cell_some (i := 2) rfl
 have p3 := P6.out.cell_some (i := 3) rfl
 clear hb6 O4 B4 P4
 cases b
 ·have ZB := Lib.hid (storeP B6.out rfl 0 0 0 ⟨#[]⟩)
  have ZO := Lib.hid (storeP_below O6.out (Nat.le_refl _) 0 0 0 ⟨#[]⟩)
  go_wp2_with fail
  exact bodyPost_ret (results_cell_p rfl rfl ZB.out) rfl ⟨rfl, ZO.out⟩
 ·have ZB := Lib.hid (storeP B6.out rfl id ep N P)
  have ZO := Lib.hid (storeP_below O6.out (Nat.le_refl _) id ep N P)
  go_wp2_with fail
  exact bodyPost_ret (results_cell_p rfl rfl ZB.out) rfl ⟨by rw [HV.out]; rfl, ZO.out⟩
end Go.Proofs.YtbelcgjbhpjnpaaGreat.Pg

/- pages: the document's numbers. -/
namespace Go.Proofs.YtbelcgjbhpjnpaaGreat.Pg
open Go.RowKit Pk
attribute [local go_sem ↓] Go.wp_at_zero Go.wp_at_succ exec_app
def lowK (N k : Nat) : List UInt8 := (List.range k).map fun j => UInt8.ofNat (N / 256 ^ (k - 1 - j))
def lenW : Value → Nat
 | .slice _ n _ => n
 | _ => 0
theorem lowK_length (N k : Nat) : (lowK N k).length = k := by simp [lowK]
theorem lowK_succ (N k : Nat) : lowK N (k + 1) = UInt8.ofNat (N / 256 ^ k) :: lowK N k := by
 unfold lowK
 rw [List.range_succ_eq_map, List.map_cons, List.map_map]
 congr 1
 apply List.map_congr_left
 intro j hj
 show UInt8.ofNat (N / 256 ^ (k + 1 - 1 - (j + 1))) = _
 congr 3
 omega
theorem lowK_be8 (N : Nat) : lowK N 8 = be8 N := rfl
set_option maxRecDepth 100000 in
set_option maxHeartbeats 2000000 in
theorem rfull_any (s : ByteArray) (hs : s.size ≤ 1000000) (w : World) :
  Calls Tryz.prog 43 #[.string s] w fun e w' => e = .returned (.string ⟨(padL s.data.toList 232).toArray⟩) ∧ Below w.heap.size w w' := by
 obtain ⟨cap, w1, ea, S1, O1⟩ := bytes_of_string (P := Tryz.prog) w 9 141 5 s Tryz.underlying9 Tryz.underlying141 Tryz.underlying5 (by unfold maxLen; omega)
 have EA := Lib.hid ea
 have S1 := Lib.hid S1
 have O1 := Lib.hid O1
 clear ea
 go_enter Tryz.func43, Tryz.ntmps43
 go_wp2_with fail
 rw [EA.out]
 go_wp2_with fail
 go_loopw [3] (fun bv wr => ∃ j : Nat, (j = 0 ∨ s.size + j ≤ 232) ∧ Slc wr 5 1 bv (s.size + j) (bvs (s.data.toList ++ List.replicate j 0)) ∧ Hid (∀ g ∈ ownB bv, w.heap.size ≤ g) ∧ Hid (Below w.heap.size w wr)) (fun bv _ => 300 - lenW bv)
 case atStart => exact ⟨0, .inl rfl, by rw [List.replicate_zero, List.append_nil]; exact S1.out, Lib.hid (by simp [ownB]), O1⟩
 case round =>
  obtain ⟨j, hj, S, F, O⟩ := hrel
  obtain ⟨VA, vc, rfl⟩ := slc_val S
  by_cases h : s.size + j < 232
  ·have hI : ((s.size + j : Nat) : Int) < 232 := by omega
   obtain ⟨v', w2, ea, S2, ow, fr⟩ := append_one (P := Tryz.prog) S 141 141 (.int .u8 0) 1 Tryz.underlying141 Crc.info_u8 rfl (.int .u8 0) rfl (by unfold maxLen; omega) (by omega)
   obtain ⟨V2, vc2, rfl⟩ := slc_val S2
   have EA := Lib.hid ea
   have SX := Lib.hid (show Slc w2 5 1 (.slice V2 (s.size + j + 1) vc2) (s.size + (j + 1)) (bvs (s.data.toList ++ List.replicate (j + 1) 0)) from by
    rw [List.replicate_succ', ← List.append_assoc, bvs_append]; exact S2)
   have OX := Lib.hid (O.out.trans (ow.below_of O.out.size F.out))
   have FX := Lib.hid (show ∀ x ∈ ownB (.slice V2 (s.size + j + 1) vc2), w.heap.size ≤ x from fun x hx => (fr x hx).elim (F.out x) (fun h => Nat.le_trans O.out.size h))
   clear ea S2 ow fr S
   go_wp2_with fail
   rw [EA.out]
   go_wp2_with fail
   go_roundw
   case rel => exact ⟨j + 1, by omega, SX.out, FX, OX⟩
   case measure => simp [lenW]; omega
  ·have hI : ¬ ((s.size + j : Nat) : Int) < 232 := by omega
   have ST := Lib.hid (str_slc (P := Tryz.prog) S 141 9 Tryz.underlying141 Tryz.underlying5 Tryz.underlying9)
   have HP := Lib.hid (show s.data.toList ++ List.replicate j 0 = padL s.data.toList 232 from by
    unfold padL; congr 2; simp; omega)
   clear S
   go_wp2_with fail
   rw [ST.out]
   go_wp2_with fail
   go_ret
   exact ⟨by rw [← HP.out]; rfl, O.out⟩
set_option maxHeartbeats 2000000 in
theorem rright_any {w : World} (id ep kd : Int) (s : ByteArray) (b : Bool) (hb : okP id ep kd = b) :
  Calls Tryz.prog 84 #[pageV id ep kd s] w fun e w' => e = .returned (.bool b) ∧ Below w.heap.size w w' := by
 have B0 := Blk.new w 55 (pageC id ep kd s)
 have O0 := Lib.hid (belowAlloc (Below.refl w.heap.size w) (.cells (pageC id ep kd s) 55))
 unfold pageC at B0 O0
 have c0 : (w.alloc (.cells #[.int .i64 id, .int .i64 ep, .int .i64 kd, .string s] 55)).cell? ⟨w.heap.size, 0, none⟩ = some (.int .i64 id) := B0.cell_some (i := 0) rfl
 have c1 : (w.alloc (.cells #[.int .i64 id, .int .i64 ep, .int .i64 kd, .string s] 55)).cell? ⟨w.heap.size, 1, none⟩ = some (.int .i64 ep) := B0.cell_some (i := 1) rfl
 have c2 : (w.alloc (.cells #[.int .i64 id, .int .i64 ep, .int .i64 kd, .string s] 55)).cell? ⟨w.heap.size, 2, none⟩ = some (.int .i64 kd) := B0.cell_some (i := 2) rfl
 clear B0
 unfold okP at hb
 have HB := Lib.hid hb
 clear hb
 unfold pageV
 by_cases h1 : 0 ≤ id
 ·by_cases h2 : 0 ≤ ep
  ·by_cases h3 : ep ≤ 1099511627776
   ·by_cases h4 : 0 ≤ kd
    ·by_cases h5 : kd ≤ 2147483647
     all_goals
      go_enter Tryz.func84, Tryz.ntmps84
      go_wp2_with fail
      go_ret
      exact ⟨by rw [← HB.out]; first | (simp [h1, h2, h3, h4, h5]; done) | (simp [h1, h2, h3, h4, h5]; omega), O0.out⟩
    ·go_enter Tryz.func84, Tryz.ntmps84
     go_wp2_with fail
     go_ret
     exact ⟨by rw [← HB.out]; first | (simp [h1, h2, h3, h4]; done) | (simp [h1, h2, h3, h4]; omega), O0.out⟩
   ·go_enter Tryz.func84, Tryz.ntmps84
    go_wp2_with fail
    go_ret
    exact ⟨by rw [← HB.out]; first | (simp [h1, h2, h3]; done) | (simp [h1, h2, h3]; omega), O0.out⟩
  ·go_enter Tryz.func84, Tryz.ntmps84
   go_wp2_with fail
   go_ret
   exact ⟨by rw [← HB.out]; first | (simp [h1, h2]; done) | (simp [h1, h2]; omega), O0.out⟩
 ·go_enter Tryz.func84, Tryz.ntmps84
  go_wp2_with fail
  go_ret
  exact ⟨by rw [← HB.out]; first | (simp [h1]; done) | (simp [h1]; omega), O0.out⟩
end Go.Proofs.YtbelcgjbhpjnpaaGreat.Pg

/- pages: the document's page, laid. -/
namespace Go.Proofs.YtbelcgjbhpjnpaaGreat.Pg
open Go.RowKit Pk
attribute [local go_sem ↓] Go.wp_at_zero Go.wp_at_succ
set_option maxRecDepth 100000 in
set_option maxHeartbeats 2000000 in
theorem pput_big {w : World} (id ep kd : Int) (s : ByteArray) (h : okP id ep kd = true) (hs : 232 < s.size) :
  Calls Tryz.prog 201 #[pageV id ep kd s] w fun e w' => e = .returned (.tuple #[.string ⟨#[]⟩, .int .i64 4]) ∧ Below w.heap.size w w' := by
 have O0 := Lib.hid (belowAlloc (Below.refl w.heap.size w) (.cells #[.int .i64 id, .int .i64 ep, .int .i64 kd, .string s] 55))
 have B0 := Lib.hid (Blk.new w 55 #[.int .i64 id, .int .i64 ep, .int .i64 kd, .string s])
 have c0 := B0.out.cell_some (i := 0) rfl
 have c1 := B0.out.cell_some (i := 1) rfl
 have c2 := B0.out.cell_some (i := 2) rfl
 have c3 := B0.out.cell_some (i := 3) rfl
 have K := Lib.hid (fun w => pright_any (w := w) id ep kd s true h)
 have hI : (232 : Int) < (s.size : Int) := by omega
 clear h
 unfold pageV at *
 go_enter Tryz.func201, Tryz.ntmps201
 go_wp2_with fail
 refine (K.out _).mono ?_
 rintro e w1 ⟨rfl, hb1⟩
 have O1 := Lib.hid (bstep O0.out hb1)
 have B1 := Lib.hid (B0.out.below hb1 B0.out.lt)
 clear hb1 c0 c1 c2 c3
 have c3 := B1.out.cell_some (i := 3) rfl
 go_wp2_with fail
 go_ret2
 exact ⟨rfl, O1.out⟩
theorem drop_be8 (N : Nat) : (be8 N).drop 4 = [UInt8.ofNat (N / 16777216), UInt8.ofNat (N / 65536), UInt8.ofNat (N / 256), UInt8.ofNat N] := by
 have e : be8 N = [UInt8.ofNat (N / 72057594037927936), UInt8.ofNat (N / 281474976710656), UInt8.ofNat (N / 1099511627776), UInt8.ofNat (N / 4294967296), UInt8.ofNat (N / 16777216), UInt8.ofNat (N / 65536), UInt8.ofNat (N / 256), UInt8.ofNat (N / 1)] := rfl
 rw [e, Nat.div_one]; rfl
theorem four_kd (N : Nat) (h : N ≤ 2147483647) : [Value.int .u8 ((N : Int) / 16777216), .int .u8 ((N : Int) / 65536 % 256), .int .u8 ((N : Int) / 256 % 256), .int .u8 ((N : Int) % 256)] = bvs ((be8 N).drop 4) := by
 rw [drop_be8]
 have e1 := bv_div N 16777216
 have e2 := bv_div N 65536
 have e3 := bv_div N 256
 have e4 := bv_mod N
 have e0 : ((N : Int) / 16777216) % 256 = (N : Int) / 16777216 := by omega
 simp only [bvs, List.map_cons, List.map_nil]
 rw [← e4, ← bv_div N 16777216, ← bv_div N 65536, ← bv_div N 256]
 show _ = [Value.int .u8 ((N : Int) / 16777216 % 256), _, _, _]
 rw [e0]; rfl
theorem pad_body (id ep kd : Int) (s : List UInt8) (h : s.length ≤ 232) : packI id ++ packI ep ++ (be8 kd.toNat).drop 4 ++ padL s 232 = padL (bodyL id ep kd s) 252 := by
 unfold padL bodyL
 have h1 : (packI id ++ packI ep ++ (be8 kd.toNat).drop 4 ++ s).length = 20 + s.length := by simp [packI_len, be8_len]; omega
 rw [h1, ← List.append_assoc]
 congr 2; omega
theorem pput_any {w : World} (id ep kd : Int) (s : ByteArray) (hid : id ≤ 9223372036854775807) :
  Calls Tryz.prog 201 #[pageV id ep kd s] w fun e w' => e = .returned (.tuple #[.string ⟨(putF id ep kd s.data.toList).1.toArray⟩, .int .i64 (putF id ep kd s.data.toList).2]) ∧ Below w.heap.size w w' := by
 have hl : s.data.toList.length = s.size := by simp
 unfold putF
 rw [hl]
 by_cases h : okP id ep kd = true
 ·rw [if_pos h]
  by_cases hs : 232 < s.size
  ·rw [if_pos hs]; exact pput_big id ep kd s h hs
  ·rw [if_neg hs]
   have hb := (okP_iff id ep kd).1 h
   obtain ⟨a, rfl⟩ := Int.eq_ofNat_of_zero_le hb.1
   obtain ⟨b, rfl⟩ := Int.eq_ofNat_of_zero_le hb.2.1
   obtain ⟨c, rfl⟩ := Int.eq_ofNat_of_zero_le hb.2.2.2.1
   exact pput_yes a b c s (by omega) (by omega) (by omega) (by omega)
 ·rw [if_neg h]
  exact pput_no id ep kd s (by simpa using h)
end Go.Proofs.YtbelcgjbhpjnpaaGreat.Pg

/- pages: the document's page, read. -/
namespace Go.Proofs.YtbelcgjbhpjnpaaGreat.Pg
open Go.RowKit Pk
attribute [local go_sem ↓] Go.wp_at_zero Go.wp_at_succ
set_option maxRecDepth 100000 in
set_option maxHeartbeats 4000000 in
theorem rreadU_any (s : ByteArray) (k : Nat) (h1 : k + 8 ≤ s.size) (hs : s.size ≤ 1000000) (w : World) :
  Calls Tryz.prog 150 #[.string s, .int .i64 (k : Nat)] w fun e w' => e = .returned (.tuple #[.int .u64 (beN ((s.data.toList.drop k).take 8) : Nat), .int .i64 ((k : Int) + 8), .int .i64 0]) ∧ Below w.heap.size w w' := by
 have e1 : ¬ (k : Int) < 0 := by omega
 have e2 : ¬ (s.size : Int) < (k : Int) := by omega
 have e3 : IntKind.i64.wrap ((s.size : Int) - (k : Int)) = (s.size : Int) - (k : Int) := IntWalk.i64_in _ (by omega)
 have e4 : ¬ (s.size : Int) - (k : Int) < 8 := by omega
 have HL := Lib.hid (show ((s.data.toList.drop k).take 8).length = 8 from by simp; omega)
 go_enter Tryz.func150, Tryz.ntmps150
 go_wp2_with fail
 go_loopw [7, 8] (fun nv iv wr => ∃ i : Nat, i ≤ 8 ∧ nv = .int .u64 (beN (((s.data.toList.drop k).take 8).take i) : Nat) ∧ iv = .int .i64 i ∧ Below w.heap.size w wr) (fun _ iv _ => 8 - (intOf iv).toNat)
 case atStart => exact ⟨0, by omega, by simp [beN], rfl, Below.refl _ _⟩
 case round =>
  obtain ⟨i, hi, rfl, rfl, O⟩ := hrel
  have OO := Lib.hid O
  clear O
  by_cases h : i < 8
  ·have hI : (i : Int) < 8 := by omega
   have hki : k + i < s.size := by omega
   have hT : ((s.data.toList.drop k).take 8).take (i + 1) = ((s.data.toList.drop k).take 8).take i ++ [s[k + i]] := by
    rw [List.take_succ_eq_append_getElem (by rw [HL.out]; omega)]
    congr 2
    rw [List.getElem_take, List.getElem_drop]; rfl
   have hlt := beN_lt (((s.data.toList.drop k).take 8).take i)
   have hlen : (((s.data.toList.drop k).take 8).take i).length = i := by rw [List.length_take, HL.out]; omega
   rw [hlen] at hlt
   have hp : 256 ^ i ≤ 256 ^ 7 := Nat.pow_le_pow_right (by omega) (by omega)
   have hB := beN_snoc (((s.data.toList.drop k).take 8).take i) s[k + i]
   rw [← hT] at hB
   have hb := s[k + i].toNat_lt
   generalize beN (((s.data.toList.drop k).take 8).take i) = M at *
   have HB := Lib.hid hB
   have hM : M < 72057594037927936 := by omega
   clear hB hT hlen hp hlt
   have f1 : IntKind.u64.wrap ((M : Int) * 256) = (M : Int) * 256 := IntWalk.u64_in _ (by omega)
   have f2 : IntKind.i64.wrap ((k : Int) + (i : Int)) = (k : Int) + (i : Int) := IntWalk.i64_in _ (by omega)
   have f3 : (0 : Int) ≤ (k : Int) + (i : Int) := by omega
   have f4 : ((k : Int) + (i : Int)).toNat = k + i := by omega
   have f5 : (k : Int) + (i : Int) < (s.size : Int) := by omega
   have f6 : IntKind.u64.wrap (s[k + i].toNat : Int) = (s[k + i].toNat : Int) := IntWalk.u64_in _ (by omega)
   have f7 : IntKind.u64.wrap ((M : Int) * 256 + (s[k + i].toNat : Int)) = (M : Int) * 256 + (s[k + i].toNat : Int) := IntWalk.u64_in _ (by omega)
   go_wp2_with fail
   go_roundw
   case rel => exact ⟨i + 1, by omega, by rw [HB.out]; simp, by go_num, OO.out⟩
   case measure => simp [intOf]; omega
  ·obtain rfl : i = 8 := by omega
   have hT : ((s.data.toList.drop k).take 8).take 8 = (s.data.toList.drop k).take 8 := List.take_of_length_le (by rw [HL.out]; exact Nat.le_refl _)
   rw [hT]
   have f2 : IntKind.i64.wrap ((k : Int) + 8) = (k : Int) + 8 := IntWalk.i64_in _ (by omega)
   clear hT
   go_wp2_with fail
   go_ret3
   exact ⟨rfl, OO.out⟩
set_option maxRecDepth 100000 in
set_option maxHeartbeats 4000000 in
theorem rreadI_any (s : ByteArray) (k : Nat) (h1 : k + 8 ≤ s.size) (hs : s.size ≤ 1000000) (w : World) :
  Calls Tryz.prog 83 #[.string s, .int .i64 (k : Nat)] w fun e w' => e = .returned (.tuple #[.int .i64 ((beN ((s.data.toList.drop k).take 8) : Int) - 9223372036854775808), .int .i64 ((k : Int) + 8), .int .i64 0]) ∧ Below w.heap.size w w' := by
 have hlt := beN_lt ((s.data.toList.drop k).take 8)
 rw [show ((s.data.toList.drop k).take 8).length = 8 by simp; omega] at hlt
 have KU := Lib.hid (rreadU_any s k h1 hs w)
 generalize beN ((s.data.toList.drop k).take 8) = M at *
 have f1 : IntKind.i64.wrap (IntKind.u64.wrap ((M : Int) - 9223372036854775808)) = (M : Int) - 9223372036854775808 := by
  by_cases h : M < 9223372036854775808
  ·have : IntKind.u64.wrap ((M : Int) - 9223372036854775808) = (M : Int) - 9223372036854775808 + 18446744073709551616 := by
    unfold IntKind.wrap; simp [IntKind.bits, IntKind.signed]; omega
   rw [this]
   unfold IntKind.wrap; simp [IntKind.bits, IntKind.signed]; omega
  ·rw [IntWalk.u64_in _ (by omega), IntWalk.i64_in _ (by omega)]
 go_enter Tryz.func83, Tryz.ntmps83
 go_wp2_with fail
 refine KU.out.mono ?_
 rintro e w1 ⟨rfl, hb⟩
 have HB := Lib.hid hb
 clear hb
 go_wp2_with fail
 go_ret3
 exact ⟨by first | rfl | (simp; done) | (simp; omega), HB.out⟩
theorem toLb {a b : ByteArray} (h : a ≠ b) : (a.toList == b.toList) = false := by
 rw [beq_eq_false_iff_ne]
 intro e
 apply h
 apply ByteArray.ext
 have e2 : a.data.toList = b.data.toList := by rw [← bytes_toList, ← bytes_toList, e]
 exact Array.toList_inj.1 e2
theorem ba_list {a : ByteArray} {l : List UInt8} (h : a.data.toList = l) : a = ⟨l.toArray⟩ := by
 apply ByteArray.ext
 rw [← h]
theorem lay_sum (l : List UInt8) (h : 4 ≤ l.length) : Crc.layF (l.drop 4) = l ↔ Crc.fourL (Crc.sumF (l.drop 4)) = l.take 4 := by
 unfold Crc.layF
 constructor
 ·intro e
  have := congrArg (List.take 4) e
  rw [List.take_append_of_le_length (by simp [Crc.fourL]), List.take_of_length_le (by simp [Crc.fourL])] at this
  exact this
 ·intro e
  rw [e, List.take_append_drop]
set_option maxRecDepth 100000 in
set_option maxHeartbeats 2000000 in
theorem rget_len {w : World} (s : ByteArray) (h : s.size ≠ 256) :
  Calls Tryz.prog 25 #[.string s] w fun e w' => e = .returned (.tuple #[PG.zero.val, .int .i64 6]) ∧ Below w.heap.size w w' := by
 have B0 := Lib.hid (Blk.new w 55 zeroC)
 have O0 := Lib.hid (belowAlloc (Below.refl w.heap.size w) (.cells zeroC 55))
 have hI : ((s.size : Int) != 256) = true := by rw [bne_iff_ne]; omega
 go_enter Tryz.func25, Tryz.ntmps25
 go_wp2_with fail
 exact bodyPost_ret (results_cell_p rfl rfl B0.out) rfl ⟨rfl, O0.out⟩
set_option maxRecDepth 100000 in
set_option maxHeartbeats 2000000 in
theorem rget_corrupt {w : World} (s : ByteArray) (h : s.size = 256) (hc : Crc.fourL (Crc.sumF (s.data.toList.drop 4)) ≠ s.data.toList.take 4) :
  Calls Tryz.prog 25 #[.string s] w fun e w' => e = .returned (.tuple #[PG.zero.val, .int .i64 14]) ∧ Below w.heap.size w w' := by
 have B0 := Lib.hid (Blk.new w 55 zeroC)
 have O0 := Lib.hid (belowAlloc (Below.refl w.heap.size w) (.cells zeroC 55))
 have hI : ((s.size : Int) != 256) = false := by rw [bne_eq_false_iff_eq]; omega
 have hll : s.data.toList.length = 256 := by simpa using h
 have K := Crc.rlay_any (s.extract 4 256) (hs := by rw [ByteArray.size_extract]; omega)
 have hx : (s.extract 4 256).data.toList = s.data.toList.drop 4 := by rw [exl]; exact List.take_of_length_le (by simp; omega)
 rw [hx] at K
 obtain ⟨T, hT⟩ : ∃ T, (⟨(Crc.layF (s.data.toList.drop 4)).toArray⟩ : ByteArray) = T := ⟨_, rfl⟩
 have hne : T ≠ s := by
  intro e
  apply hc
  rw [← lay_sum _ (by omega)]
  rw [← hT] at e
  have := congrArg (fun x : ByteArray => x.data.toList) e
  simpa using this
 rw [hT] at K
 have K := Lib.hid K
 have hq := toLb hne
 clear hc hT hx hll hne
 go_enter Tryz.func25, Tryz.ntmps25
 go_wp2_with fail
 refine (K.out _).mono ?_
 rintro e w1 ⟨rfl, hb1⟩
 have O1 := Lib.hid (bstep O0.out hb1)
 have B1 := Lib.hid (B0.out.below hb1 B0.out.lt)
 clear hb1
 have z0 := B1.out.frozen 0 (by simp)
 have z1 := B1.out.frozen 1 (by simp)
 have z2 := B1.out.frozen 2 (by simp)
 have z3 := B1.out.frozen 3 (by simp)
 have c0 := B1.out.cell_some (i := 0) rfl
 have c1 := B1.out.cell_some (i := 1) rfl
 have c2 := B1.out.cell_some (i := 2) rfl
 have c3 := B1.out.cell_some (i := 3) rfl
 have ZB := Lib.hid (storeP B1.out rfl 0 0 0 ⟨#[]⟩)
 have ZO := Lib.hid (storeP_below O1.out (Nat.le_refl _) 0 0 0 ⟨#[]⟩)
 go_wp2_with fail
 exact bodyPost_ret (results_cell_p rfl rfl ZB.out) rfl ⟨rfl, ZO.out⟩
end Go.Proofs.YtbelcgjbhpjnpaaGreat.Pg

/- pages: the document's page, read whole. -/
namespace Go.Proofs.YtbelcgjbhpjnpaaGreat.Pg
open Go.RowKit Pk
attribute [local go_sem ↓] Go.wp_at_zero Go.wp_at_succ
set_option maxRecDepth 100000 in
set_option maxHeartbeats 4000000 in
theorem rget_sound {w : World} (s : ByteArray) (h : s.size = 256) (hc : Crc.fourL (Crc.sumF (s.data.toList.drop 4)) = s.data.toList.take 4) (b : Bool) (hb : okP (decG s.data.toList).id (decG s.data.toList).ep (decG s.data.toList).kd = b) :
  Calls Tryz.prog 25 #[.string s] w fun e w' => e = .returned (.tuple #[if b then (decG s.data.toList).val else PG.zero.val, .int .i64 (if b then 0 else 14)]) ∧ Below w.heap.size w w' := by
 have B0 := Lib.hid (Blk.new w 55 zeroC)
 have O0 := Lib.hid (belowAlloc (Below.refl w.heap.size w) (.cells zeroC 55))
 have hI : ((s.size : Int) != 256) = false := by rw [bne_eq_false_iff_eq]; omega
 have hll : s.data.toList.length = 256 := by simpa using h
 have K := Crc.rlay_any (s.extract 4 256) (hs := by rw [ByteArray.size_extract]; omega)
 have hx : (s.extract 4 256).data.toList = s.data.toList.drop 4 := by rw [exl]; exact List.take_of_length_le (by simp; omega)
 rw [hx, (lay_sum _ (by omega)).2 hc, ← ba_list (a := s) rfl] at K
 have K := Lib.hid K
 have KI := Lib.hid (rreadI_any s 4 (h1 := by omega) (hs := by omega))
 have KJ := Lib.hid (rreadI_any s 12 (h1 := by omega) (hs := by omega))
 obtain ⟨P, hP⟩ : ∃ P, s.extract 24 256 = P := ⟨_, rfl⟩
 have hPl : P.data.toList = s.data.toList.drop 24 := by
  rw [← hP, exl]; exact List.take_of_length_le (by simp; omega)
 have x0 : 20 < s.size := by omega
 have x1 : 21 < s.size := by omega
 have x2 : 22 < s.size := by omega
 have x3 : 23 < s.size := by omega
 have y0 := s[20].toNat_lt
 have y1 := s[21].toNat_lt
 have y2 := s[22].toNat_lt
 have y3 := s[23].toNat_lt
 obtain ⟨N, hN⟩ : ∃ N, beN ((s.data.toList.drop 20).take 4) = N := ⟨_, rfl⟩
 have hNe : ((s[20].toNat : Int) * 16777216 + (s[21].toNat : Int) * 65536 + (s[22].toNat : Int) * 256 + (s[23].toNat : Int)) = (N : Int) := by
  have : (s.data.toList.drop 20).take 4 = [s[20], s[21], s[22], s[23]] := by
   apply List.ext_getElem (by simp; omega)
   intro i h1 h2
   simp only [List.length_cons, List.length_nil] at h2
   rcases (show i = 0 ∨ i = 1 ∨ i = 2 ∨ i = 3 by omega) with rfl | rfl | rfl | rfl <;> · rw [List.getElem_take, List.getElem_drop]; rfl
  rw [this] at hN
  simp only [beN, List.foldl_cons, List.foldl_nil] at hN
  omega
 have hNlt : N < 4294967296 := by omega
 have e1 : ((beN ((s.data.toList.drop 4).take 8) : Nat) : Int) - 9223372036854775808 = (decG s.data.toList).id := rfl
 have e2 : ((beN ((s.data.toList.drop 12).take 8) : Nat) : Int) - 9223372036854775808 = (decG s.data.toList).ep := rfl
 rw [e1] at KI
 rw [e2] at KJ
 have hkd : (decG s.data.toList).kd = (N : Int) := by rw [← hN]; rfl
 have HV := Lib.hid (show (decG s.data.toList).val = pageV (decG s.data.toList).id (decG s.data.toList).ep N P from by
  have : P = ⟨(decG s.data.toList).s.toArray⟩ := ba_list hPl
  rw [this, ← hkd]; rfl)
 rw [hkd] at hb
 generalize (decG s.data.toList).id = id at *
 generalize (decG s.data.toList).ep = ep at *
 generalize (decG s.data.toList).val = V at *
 have m0 : IntKind.i64.wrap (s[20].toNat : Int) = (s[20].toNat : Int) := IntWalk.i64_in _ (by omega)
 have m1 : IntKind.i64.wrap (s[21].toNat : Int) = (s[21].toNat : Int) := IntWalk.i64_in _ (by omega)
 have m2 : IntKind.i64.wrap (s[22].toNat : Int) = (s[22].toNat : Int) := IntWalk.i64_in _ (by omega)
 have m3 : IntKind.i64.wrap (s[23].toNat : Int) = (s[23].toNat : Int) := IntWalk.i64_in _ (by omega)
 have t0 : IntKind.i64.wrap ((s[20].toNat : Int) * 16777216) = (s[20].toNat : Int) * 16777216 := IntWalk.i64_in _ (by omega)
 have t1 : IntKind.i64.wrap ((s[21].toNat : Int) * 65536) = (s[21].toNat : Int) * 65536 := IntWalk.i64_in _ (by omega)
 have t2 : IntKind.i64.wrap ((s[22].toNat : Int) * 256) = (s[22].toNat : Int) * 256 := IntWalk.i64_in _ (by omega)
 have t3 : IntKind.i64.wrap ((s[20].toNat : Int) * 16777216 + (s[21].toNat : Int) * 65536) = (s[20].toNat : Int) * 16777216 + (s[21].toNat : Int) * 65536 := IntWalk.i64_in _ (by omega)
 have t4 : IntKind.i64.wrap ((s[20].toNat : Int) * 16777216 + (s[21].toNat : Int) * 65536 + (s[22].toNat : Int) * 256) = (s[20].toNat : Int) * 16777216 + (s[21].toNat : Int) * 65536 + (s[22].toNat : Int) * 256 := IntWalk.i64_in _ (by omega)
 have t5 : IntKind.i64.wrap ((s[20].toNat : Int) * 16777216 + (s[21].toNat : Int) * 65536 + (s[22].toNat : Int) * 256 + (s[23].toNat : Int)) = (N : Int) := by rw [hNe]; exact IntWalk.i64_in _ (by omega)
 have u0 : (20 : Int) < (s.size : Int) := by omega
 have u1 : (21 : Int) < (s.size : Int) := by omega
 have u2 : (22 : Int) < (s.size : Int) := by omega
 have u3 : (23 : Int) < (s.size : Int) := by omega
 have KR := Lib.hid (fun w => rright_any (w := w) id ep N P b hb)
 unfold pageV at KR
 have HNE := Lib.hid (show (s[20].toNat : Int) * (16777216 : Int) + (s[21].toNat : Int) * (65536 : Int) + (s[22].toNat : Int) * (256 : Int) + (s[23].toNat : Int) = (N : Int) from hNe)
 clear hc hb e1 e2 hkd hN hPl hNe hx
 go_enter Tryz.func25, Tryz.ntmps25
 go_wp2_with fail
 refine (K.out _).mono ?_
 rintro e w1 ⟨rfl, hb1⟩
 have O1 := Lib.hid (bstep O0.out hb1)
 have B1 := Lib.hid (B0.out.below hb1 B0.out.lt)
 clear hb1 O0 B0
 go_wp2_with fail
 refine (KI.out _).mono ?_
 rintro e w2 ⟨rfl, hb2⟩
 have O2 := Lib.hid (bstep O1.out hb2)
 have B2 := Lib.hid (B1.out.below hb2 B1.out.lt)
 clear hb2 O1 B1
 go_wp2_with fail
 refine (KJ.out _).mono ?_
 rintro e w3 ⟨rfl, hb3⟩
 have O3 := Lib.hid (bstep O2.out hb3)
 have B3 := Lib.hid (B2.out.below hb3 B2.out.lt)
 clear hb3 O2 B2
 go_wp2_with fail
 go_quiet (fail)
 rw [HNE.out]
 have O3 := Lib.hid (Below_drewN O3.out nq)
 have B3 := Lib.hid (B3.out.drewN nq)
 generalize hw4 : w3.drewN nq = w4 at *
 clear hw4
 have O4 := Lib.hid (belowAlloc O3.out (.cells #[.int .i64 id, .int .i64 ep, .int .i64 (N : Int), .string P] 55))
 have B4 := Lib.hid (B3.out.alloc (.cells #[.int .i64 id, .int .i64 ep, .int .i64 (N : Int), .string P] 55))
 have P4 := Lib.hid (Blk.new w4 55 #[.int .i64 id, .int .i64 ep, .int .i64 (N : Int), .string P])
 go_wp2_with fail
 generalize hw5 : w4.alloc (.cells #[.int .i64 id, .int .i64 ep, .int .i64 (N : Int), .string P] 55) = w5 at *
 clear hw5
 refine (KR.out _).mono ?_
 rintro e w6 ⟨rfl, hb6⟩
 have O6 := Lib.hid (bstep O4.out hb6)
 have B6 := Lib.hid (B4.out.below hb6 B4.out.lt)
 have P6 := Lib.hid (P4.out.below hb6 P4.out.lt)
 have z0 := B6.out.frozen 0 (by simp)
 have z1 := B6.out.frozen 1 (by simp)
 have z2 := B6.out.frozen 2 (by simp)
 have z3 := B6.out.frozen 3 (by simp)
 have c0 := B6.out.cell_some (i := 0) rfl
 have c1 := B6.out.cell_some (i := 1) rfl
 have c2 := B6.out.cell_some (i := 2) rfl
 have c3 := B6.out.cell_some (i := 3) rfl
 have p0 := P6.out.cell_some (i := 0) rfl
 have p1 := P6.out.cell_some (i := 1) rfl
 have p2 := P6.out.cell_some (i := 2) rfl
 have p3 := P6.out.cell_some (i := 3) rfl
 clear hb6 O4 B4 P4
 cases b
 ·have ZB := Lib.hid (storeP B6.out rfl 0 0 0 ⟨#[]⟩)
  have ZO := Lib.hid (storeP_below O6.out (Nat.le_refl _) 0 0 0 ⟨#[]⟩)
  go_wp2_with fail
  exact bodyPost_ret (results_cell_p rfl rfl ZB.out) rfl ⟨rfl, ZO.out⟩
 ·have ZB := Lib.hid (storeP B6.out rfl id ep N P)
  have ZO := Lib.hid (storeP_below O6.out (Nat.le_refl _) id ep N P)
  go_wp2_with fail
  exact bodyPost_ret (results_cell_p rfl rfl ZB.out) rfl ⟨by rw [HV.out]; rfl, ZO.out⟩
theorem pget_any {w : World} (s : ByteArray) :
  Calls Tryz.prog 153 #[.string s] w fun e w' => e = .returned (.tuple #[(gotF s.data.toList).1.val, .int .i64 (gotF s.data.toList).2]) ∧ Below w.heap.size w w' := by
 have hl : s.data.toList.length = s.size := by simp
 unfold gotF
 rw [hl]
 by_cases h : s.size = 256
 ·rw [if_neg (by omega)]
  by_cases hc : Crc.fourL (Crc.sumF (s.data.toList.drop 4)) = s.data.toList.take 4
  ·rw [if_neg (by simpa using hc)]
   by_cases hb : okP (decG s.data.toList).id (decG s.data.toList).ep (decG s.data.toList).kd = true
   ·rw [if_pos hb]; simpa using pget_sound (w := w) s h hc true hb
   ·rw [if_neg hb]; simpa using pget_sound (w := w) s h hc false (by simpa using hb)
  ·rw [if_pos hc]; exact pget_corrupt s h hc
 ·rw [if_pos h]; exact pget_len s h
theorem rget_any {w : World} (s : ByteArray) :
  Calls Tryz.prog 25 #[.string s] w fun e w' => e = .returned (.tuple #[(gotF s.data.toList).1.val, .int .i64 (gotF s.data.toList).2]) ∧ Below w.heap.size w w' := by
 have hl : s.data.toList.length = s.size := by simp
 unfold gotF
 rw [hl]
 by_cases h : s.size = 256
 ·rw [if_neg (by omega)]
  by_cases hc : Crc.fourL (Crc.sumF (s.data.toList.drop 4)) = s.data.toList.take 4
  ·rw [if_neg (by simpa using hc)]
   by_cases hb : okP (decG s.data.toList).id (decG s.data.toList).ep (decG s.data.toList).kd = true
   ·rw [if_pos hb]; simpa using rget_sound (w := w) s h hc true hb
   ·rw [if_neg hb]; simpa using rget_sound (w := w) s h hc false (by simpa using hb)
  ·rw [if_pos hc]; exact rget_corrupt s h hc
 ·rw [if_pos h]; exact rget_len s h
end Go.Proofs.YtbelcgjbhpjnpaaGreat.Pg
