/- nodes: results that lie in cells. -/
import Derived.Test.YticehnnbjbliaabNd8
namespace Go.Proofs.Yticehnnbjbliaab.Nd
open Go.RowKit Sl
theorem results_cell_one {fn : Func} {p : Tmp} {ty : TypeId} (h : fn.results = #[.cell p ty]) (tmps : Array Value) (P : Program) (w : World) :
    (results fn tmps).run P w = ((asAddr (tmps.getD p undef)).run P w).andThen fun a w₁ => (loadVar ty a).run P w₁ := by
  simp only [results, h]
  simp [Sem.run_bind, Result.andThen]
theorem results_cell_two {fn : Func} {p q : Tmp} {ty tz : TypeId} (h : fn.results = #[.cell p ty, .cell q tz]) (tmps : Array Value) (P : Program) (w : World) :
    (results fn tmps).run P w =
      ((asAddr (tmps.getD p undef)).run P w).andThen fun a w₁ => ((loadVar ty a).run P w₁).andThen fun v w₂ => ((asAddr (tmps.getD q undef)).run P w₂).andThen fun a w₁ => ((loadVar tz a).run P w₁).andThen fun u w₂ => .ok (.tuple #[v, u]) w₂ := by
  simp only [results, h]
  simp [Sem.run_bind, Result.andThen]
theorem ret_node {fn : Func} {p : Tmp} {w : World} {g : Nat} {leaf : Bool} {A : Option Addr} {n c : Nat} {tmps : Array Value} (h : fn.results = #[.cell p 32]) (hp : tmps.getD p undef = .pointer (some ⟨g, 0, none⟩)) (B : Blk w g 32 #[.bool leaf, .slice A n c]) :
    (results fn tmps).run Try.prog w = .ok (nodeV leaf A n c) w := by
  have c0 := B.cell_some (i := 0) rfl
  have c1 := B.cell_some (i := 1) rfl
  rw [results_cell_one h, hp]
  clear h hp B
  unfold nodeV
  go_simp
theorem ret_rnode {fn : Func} {p : Tmp} {w : World} {g : Nat} {leaf : Bool} {A : Option Addr} {n c : Nat} {tmps : Array Value} (h : fn.results = #[.cell p 24]) (hp : tmps.getD p undef = .pointer (some ⟨g, 0, none⟩)) (B : Blk w g 24 #[.bool leaf, .slice A n c]) :
    (results fn tmps).run Try.prog w = .ok (nodeV leaf A n c) w := by
  have c0 := B.cell_some (i := 0) rfl
  have c1 := B.cell_some (i := 1) rfl
  rw [results_cell_one h, hp]
  clear h hp B
  unfold nodeV
  go_simp
theorem ret_node2 {fn : Func} {p u : Tmp} {w : World} {g : Nat} {leaf : Bool} {A : Option Addr} {n c : Nat} {tmps : Array Value} (h : fn.results = #[.cell p 32, .tmp u]) (hp : tmps.getD p undef = .pointer (some ⟨g, 0, none⟩)) (B : Blk w g 32 #[.bool leaf, .slice A n c]) :
    (results fn tmps).run Try.prog w = .ok (.tuple #[nodeV leaf A n c, tmps.getD u undef]) w := by
  have c0 := B.cell_some (i := 0) rfl
  have c1 := B.cell_some (i := 1) rfl
  rw [results_cell_tmp h, hp]
  clear h hp B
  unfold nodeV
  go_simp
theorem ret_rnode2 {fn : Func} {p u : Tmp} {w : World} {g : Nat} {leaf : Bool} {A : Option Addr} {n c : Nat} {tmps : Array Value} (h : fn.results = #[.cell p 24, .tmp u]) (hp : tmps.getD p undef = .pointer (some ⟨g, 0, none⟩)) (B : Blk w g 24 #[.bool leaf, .slice A n c]) :
    (results fn tmps).run Try.prog w = .ok (.tuple #[nodeV leaf A n c, tmps.getD u undef]) w := by
  have c0 := B.cell_some (i := 0) rfl
  have c1 := B.cell_some (i := 1) rfl
  rw [results_cell_tmp h, hp]
  clear h hp B
  unfold nodeV
  go_simp
theorem ret_halves {fn : Func} {p q : Tmp} {w : World} {g g' : Nat} {leaf leaf' : Bool} {A A' : Option Addr} {n c n' c' : Nat} {tmps : Array Value} (h : fn.results = #[.cell p 32, .cell q 32]) (hp : tmps.getD p undef = .pointer (some ⟨g, 0, none⟩)) (hq : tmps.getD q undef = .pointer (some ⟨g', 0, none⟩)) (B : Blk w g 32 #[.bool leaf, .slice A n c]) (B' : Blk w g' 32 #[.bool leaf', .slice A' n' c']) :
    (results fn tmps).run Try.prog w = .ok (.tuple #[nodeV leaf A n c, nodeV leaf' A' n' c']) w := by
  have c0 := B.cell_some (i := 0) rfl
  have c1 := B.cell_some (i := 1) rfl
  have d0 := B'.cell_some (i := 0) rfl
  have d1 := B'.cell_some (i := 1) rfl
  rw [results_cell_two h, hp, hq]
  clear h hp hq B B'
  unfold nodeV
  go_simp
end Go.Proofs.Yticehnnbjbliaab.Nd
