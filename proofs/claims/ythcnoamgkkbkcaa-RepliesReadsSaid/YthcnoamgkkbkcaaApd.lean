/- One element put behind a row, in a region that draws its order: generic. -/
import Derived.Test.YthcnoamgkkbkcaaGr
import Derived.Test.YthcnoamgkkbkcaaOpl
namespace Go.Proofs.Ythcnoamgkkbkcaa
open Go.RowKit

structure ApS {P : Program} {α : Type} (K : EK P α) (w0 : World) (B0 : Nat) (u : Value) (l : List α) (q : α) (db da : Bool) (xb xa : Value) (w : World) : Prop where
  b : da = false → Below w0.heap.size w0 w
  k : da = false → db = true → ∃ b, xb = .slice (some ⟨b, 0, none⟩) 1 1 ∧ w0.heap.size ≤ b ∧ w.heap[b]? = some (.cells (K.cs q).toArray K.e (0, 0))
  f : da = true → K.row w B0 xa (l ++ [q]) ∧ Fr (fun j => u.ownBlock = some j) w0 w ∧ (xa.ownBlock = u.ownBlock ∨ ∃ k, xa.ownBlock = some k ∧ w0.heap.size ≤ k)
section
variable {P : Program} {α : Type} {K : EK P α} {w0 w : World} {B0 : Nat} {u : Value} {l : List α} {q : α} {db da : Bool} {xb xa : Value}
theorem ApS.start (xb xa : Value) (hb : Below w0.heap.size w0 w) : ApS K w0 B0 u l q false false xb xa w := ⟨fun _ => hb, (fun _ e => by cases e), (fun e => by cases e)⟩
theorem ApS.bs (h : ApS K w0 B0 u l q db da xb xa w) (hd : da = false) (cs : Array Value) (hcs : cs = (K.cs q).toArray) (ty : TypeId) (hty : ty = K.e) : ApS K w0 B0 u l q true da (.slice (some ⟨w.heap.size, 0, none⟩) 1 1) xa (w.alloc (.cells cs ty)) := by
  subst hcs hty
  have hb := h.b hd
  exact ⟨fun _ => hb.alloc hb.size _, fun _ _ => ⟨_, rfl, hb.size, obj_new _ _⟩, fun e => by rw [hd] at e; cases e⟩
theorem ApS.ap (h : ApS K w0 B0 u l q db da xb xa w) (hr : K.row w0 B0 u l) (hl : l.length ≤ 65536) (hB : B0 ≤ w0.heap.size) (hd : da = false) (hdb : db = true) (ty : TypeId) :
    ∃ b, xb = .slice (some ⟨b, 0, none⟩) 1 1 ∧ ∃ v' w', (Builtin.append_ #[K.t, K.t] ty #[u, .slice (some ⟨b, 0, none⟩) 1 1]).run P w = .ok v' w' ∧ ApS K w0 B0 u l q db true (.slice (some ⟨b, 0, none⟩) 1 1) v' w' := by
  have hb := h.b hd
  obtain ⟨b, e, h1, h2⟩ := h.k hd hdb
  have hsz := hb.size
  obtain ⟨v', w', a1, a2, a3, a4⟩ := EK.app (EK.row_below hr hb) (EK.rd_one (K := K) q h2) (by simp; omega) (by omega) ty
  refine ⟨b, e, v', w', a1, (fun e => by cases e), (fun e => by cases e), fun _ => ⟨a2, (Fr.of_below hb).trans a3 (fun _ _ e => e), ?_⟩⟩
  rcases a4 with e | e
  · exact .inl e
  · exact .inr ⟨_, e, hsz⟩
end
end Go.Proofs.Ythcnoamgkkbkcaa
