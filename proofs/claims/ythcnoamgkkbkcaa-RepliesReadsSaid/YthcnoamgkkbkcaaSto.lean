/- A whole variable stored or loaded; a whole block set. -/
import Derived.Test.YthcnoamgkkbkcaaBase
import Derived.Laws.Rows
namespace Go.Proofs.Ythcnoamgkkbkcaa
open Go.RowKit

/-- A whole variable, stored or loaded. -/
theorem wpList_loadv' {P : Program} {ops : Array Oper} {rest : List Oper} {o : Oper} {a : Act} {w : World} {Q : Exit → Act → World → Prop} (hgd : o.guard = none) (ty : TypeId) (x : Operand) (ho : o.op = .load ty x) {p v : Value} (hx : a.eval x = p)
    (hrun : (Instr.loadAt ty p).run P w = .ok v w) (h : wpList P ops Q rest (a.put o.dst v) w) : wpList P ops Q (o :: rest) a w :=
  wpList_plain hgd fun _ hK => by
    unfold Oper.wp execOp
    simp only [ho, hx, Sem.run_bind, hrun, Result.andThen_ok, Sem.run_pure]
    exact hK _ _ h
theorem wpList_storev' {P : Program} {ops : Array Oper} {rest : List Oper} {o : Oper} {a : Act} {w w' : World} {Q : Exit → Act → World → Prop} (hgd : o.guard = none) (ty : TypeId) (x y : Operand) (ho : o.op = .store ty x y) {p v : Value} (hx : a.eval x = p) (hy : a.eval y = v)
    (hrun : (Instr.storeAt ty p v).run P w = .ok () w') (h : wpList P ops Q rest (a.put o.dst undef) w') : wpList P ops Q (o :: rest) a w :=
  wpList_plain hgd fun _ hK => by
    unfold Oper.wp execOp
    simp only [ho, hx, hy, Sem.run_bind, hrun, Result.andThen_ok, Sem.run_pure]
    exact hK _ _ h
theorem wp_storev' {P : Program} {o : Oper} {a : Act} {w w' : World} {K : Act → World → Prop} {Q : Exit → Act → World → Prop} (ty : TypeId) (x y : Operand) (ho : o.op = .store ty x y) {p v : Value} (hx : a.eval x = p) (hy : a.eval y = v)
    (hrun : (Instr.storeAt ty p v).run P w = .ok () w') (h : K (a.put o.dst undef) w') : Oper.wp P o a w K Q := by
  unfold Oper.wp execOp
  simp only [ho, hx, hy, Sem.run_bind, hrun, Result.andThen_ok, Sem.run_pure]
  exact h
theorem store_whole {P : Program} {w : World} {g : Nat} {t ty : TypeId} {old cells : Array Value} (hg : w.heap[g]? = some (.cells old t (0, 0))) (hi : (P.info? ty).map (·.size) = some cells.size) (ho : old.size = cells.size) (h1 : cells.all (·.oneCell') = true) :
    (Instr.storeAt ty (.pointer (some ⟨g, 0, none⟩)) (.agg cells)).run P w = .ok () (w.setRow g cells) := by
  simp only [Instr.storeAt, Instr.sureAddr, Sem.run_bind, Sem.run_pure, Result.andThen_ok]
  exact run_storeVar_row w g t ty old cells hg hi ho h1
theorem setRow_at' {W : World} {g : Nat} {C C' : Array Value} {t : TypeId} (h : W.heap[g]? = some (.cells C t (0, 0))) : (W.setRow g C').heap[g]? = some (.cells C' t (0, 0)) := by
  simp [World.setRow, Array.getElem?_modify, h]
theorem setRow_size' (W : World) (g : Nat) (C' : Array Value) : (W.setRow g C').heap.size = W.heap.size := by simp [World.setRow]
theorem setRow_far' {W : World} {g k : Nat} {C' : Array Value} (h : k ≠ g) : (W.setRow g C').heap[k]? = W.heap[k]? := by
  simp [World.setRow, Array.getElem?_modify, Ne.symm h]
theorem setRow_fr' (W : World) (g : Nat) (C' : Array Value) : Fr (fun j => j = g) W (W.setRow g C') :=
  ⟨rfl, rfl, rfl, by rw [setRow_size']; exact Nat.le_refl _, fun _ _ hk => setRow_far' hk⟩
end Go.Proofs.Ythcnoamgkkbkcaa
