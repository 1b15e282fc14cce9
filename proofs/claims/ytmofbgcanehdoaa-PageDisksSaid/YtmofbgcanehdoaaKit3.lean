/- more words: a slice appended to a slice; a string's extract. -/
import Derived.Test.YtmofbgcanehdoaaKit2
namespace Go.Proofs.Ytmofbgcanehdoaa
open Go.RowKit
/-- append(v, x...), x a slice that is known whole, or nil -/
theorem append_slcs {P : Program} {w : World} {e : TypeId} {size : Nat} {v x : Value} {n m : Nat} {l lx : List Value} (h : Slc w e size v n l) (hx : Slc w e size x m lx)
    (T ty : TypeId) (z : Value) (bytes : Nat) (ht : P.underlying T = some (.slice e)) (hinfo : (P.info? e).map (fun i => (i.zero, i.size, i.bytes)) = some (some z, size, bytes)) (hz : z.cells.size = size) (hs : 0 < size)
    (h1 : ∀ u ∈ lx, u.oneCell' = true) (h63 : n + m ≤ maxLen) (hb : (n + m) * bytes ≤ 140737488355328) :
    ∃ v' w', appRun P T ty w v x = .ok v' w' ∧ Slc w' e size v' (n + m) (l ++ lx) ∧ Only (ownB v) w w' ∧ (∀ g ∈ ownB v', g ∈ ownB v ∨ w.heap.size ≤ g) := by
  obtain ⟨i0, hi, hz0, hz1, hz2⟩ := info_parts hinfo
  have hxl := hx.1
  rcases hx.2 with ⟨rfl, rfl⟩ | ⟨g, cap, rest, rfl, B, hc, hm⟩
  · have hnil : lx = [] := List.eq_nil_of_length_eq_zero (by simpa using hxl)
    subst hnil
    refine ⟨v, w, ?_, by simpa using h, Only.refl _ _, fun x hx => .inl hx⟩
    unfold appRun
    rcases h.2 with ⟨rfl, h0⟩ | ⟨g, cap, rest, rfl, BB, hc, hm⟩
    · simp [Builtin.append_, run_underlying ht, sizeOf, typeInfo, hi, Builtin.lenOf, Builtin.firstCells]
    · have hl := h.1
      have hnc : n ≤ cap := by
        have : n * size ≤ cap * size := by omega
        exact Nat.le_of_mul_le_mul_right this hs
      simp [Builtin.append_, run_underlying ht, sizeOf, typeInfo, hi, Builtin.lenOf, Builtin.firstCells, hnc, storeCells]
  · obtain ⟨v', w', e1, h2, h3, h4⟩ := append_slc (P := P) h T ty i0 z bytes ht hi hz0 hz1 hz2 hz hs ⟨g, 0, none⟩ m cap lx hxl (cells_at B 0 lx (by intro j u hu; rw [Nat.zero_add]; exact List.getElem?_append_left (List.getElem?_eq_some_iff.1 hu).1 ▸ hu)) h1 h63 hb
    exact ⟨v', w', e1, h2, h3, h4⟩
/-- a new slice of the cells of a literal -/
theorem slc_lit (w : World) (e : TypeId) (l : List Value) (h : l.length ≤ maxLen) : Slc (w.alloc (.cells l.toArray e)) e 1 (.slice (some ⟨w.heap.size, 0, none⟩) l.length l.length) l.length l :=
  ⟨by simp, .inr ⟨w.heap.size, l.length, [], rfl, by rw [List.append_nil]; exact Blk.new w e l.toArray, by simp, h⟩⟩
theorem exl' (u : ByteArray) (a b : Nat) : (u.extract a b).data.toList = (u.data.toList.drop a).take (b - a) := by
  rw [ByteArray.data_extract, Array.toList_extract, List.extract_eq_take_drop]
theorem quietS {P : Program} {f : FuncId} {args : Array Value} {w : World} {n : Nat} {v : Value} (h : Calls P f args (w.drewN n) fun e w' => e = .returned v ∧ w.drewN n = w') : Calls P f args (w.drewN n) fun e w'' => e = .returned v ∧ ∃ m, w'' = w.drewN m := h.mono fun _ _ ⟨he, hm⟩ => ⟨he, n, hm.symm⟩
/-- string(v), v a slice known whole, nil or not -/
theorem str_slc {P : Program} {w : World} {v : Value} {n : Nat} {l : List UInt8} {e : TypeId} (S : Slc w e 1 v n (bvs l)) (src dst : TypeId) (hs : P.underlying src = some (.slice e)) (he : P.underlying e = some (.int .u8)) (hd : P.underlying dst = some .string) :
    (convert src dst v).run P w = .ok (.string ⟨l.toArray⟩) w := by
  have hl := S.1
  rcases S.2 with ⟨rfl, rfl⟩ | ⟨g, cap, rest, rfl, B, hc, _⟩
  · have hnil : l = [] := List.eq_nil_of_length_eq_zero (by simpa using hl)
    subst hnil
    rw [run_convert_bytes_string w src dst e none 0 0 hs he hd]
    rfl
  · exact run_string_of (P := P) w src dst e hs he hd ⟨g, 0, none⟩ n cap l (by simpa using hl) (cells_at B 0 _ (by intro j u hu; rw [Nat.zero_add]; exact List.getElem?_append_left (List.getElem?_eq_some_iff.1 hu).1 ▸ hu))
end Go.Proofs.Ytmofbgcanehdoaa
