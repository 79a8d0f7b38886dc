/- Laws on operations that both seats share. -/
import Derived.Test.YtpebilhdlblgoaaBytes
import Derived.Deep.RegionWith
import Derived.Lib.IndexBytes
namespace Go.Proofs.Ytpebilhdlblgoaa
open Go.RowKit

theorem wanted_none' {o : Oper} (h : o.guard = none) (f : Nat → Option Bool) : Region.wanted o f = true := by unfold Region.wanted; rw [h]
theorem wpStill_slice {P : Program} {ops : Array Oper} {w : World} {Q : Act → Prop} {a : Act} {o : Oper} {rest : List Oper} (hgd : o.guard = none) (ty : TypeId) (x : Operand) (lo hi : Option Operand) (ho : o.op = .slice ty x lo hi none) {v u : Value} {l' h' : Option Value} (hx : a.eval x = v) (hl : lo.map a.eval = l') (hh : hi.map a.eval = h')
    (hrun : (Instr.sliceAt ty v l' h' none).run P w = .ok u w) (h : wpStill P ops w Q rest (a.put o.dst u)) : wpStill P ops w Q (o :: rest) a :=
  wpStill_step fun K hK => by
    rw [if_pos (wanted_none' hgd _)]
    unfold Oper.still execOp
    simp only [ho, hx, hl, hh, Option.map_none, Sem.run_bind, hrun, Result.andThen_ok, Sem.run_pure]
    exact ⟨rfl, hK _ h⟩
theorem extract_str (s : ByteArray) (a b : Nat) : s.extract a b = ⟨((s.data.toList.drop a).take (b - a)).toArray⟩ := by
  rw [← str_eta (s.extract a b), Lib.extract_data]
end Go.Proofs.Ytpebilhdlblgoaa
