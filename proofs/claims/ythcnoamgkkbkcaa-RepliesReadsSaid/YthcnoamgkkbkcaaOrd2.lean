/- Words over Ord: a world in which a block is kept; a row of the call's own over a frame. -/
import Derived.Test.YthcnoamgkkbkcaaOrd
namespace Go.Proofs.Ythcnoamgkkbkcaa
open Go.RowKit

/-- Block g holds cs, and what lay below B is as it was. -/
def Kept (B g : Nat) (cs : Array Value) (t : TypeId) (w0 w : World) : Prop := Below B w0 w ∧ B ≤ w.heap.size ∧ w.heap[g]? = some (.cells cs t (0, 0))
theorem Kept.drew {B g : Nat} {cs : Array Value} {t : TypeId} {w0 w : World} (h : Kept B g cs t w0 w) : Kept B g cs t w0 w.drew := ⟨h.1.drew, h.2.1, h.2.2⟩
theorem Kept.on {B g : Nat} {cs : Array Value} {t : TypeId} {w0 w w' : World} (hb : Below w.heap.size w w') (h : Kept B g cs t w0 w) : Kept B g cs t w0 w' :=
  ⟨h.1.trans (hb.mono h.2.1), Nat.le_trans h.2.1 hb.size, obj_below h.2.2 hb⟩
theorem Kept.self {g : Nat} {cs : Array Value} {t : TypeId} {w : World} (h : w.heap[g]? = some (.cells cs t (0, 0))) : Kept w.heap.size g cs t w w := ⟨Below.refl _ _, Nat.le_refl _, h⟩
theorem Kept.cell {B g : Nat} {cs : Array Value} {t : TypeId} {w0 w : World} (h : Kept B g cs t w0 w) (i : Nat) : w.cell? ⟨g, i, none⟩ = cs[i]? := obj_cell h.2.2 i
theorem Kept.lt {B g : Nat} {cs : Array Value} {t : TypeId} {w0 w : World} (h : Kept B g cs t w0 w) : g < w.heap.size := obj_lt h.2.2
theorem row_fr {F : Nat → Prop} {w w' : World} {B : Nat} {e : TypeId} {size : Nat} {v : Value} {n : Nat} {xs : List Value} (h : w.ownsRow B e size v n xs) (hf : Fr F w w') (hn : ∀ k, v.ownBlock = some k → ¬ F k) : w'.ownsRow B e size v n xs := by
  refine ⟨h.1, h.2.imp id ?_⟩
  rintro ⟨g, cap, cur, rfl, hb, hh, hr⟩
  exact ⟨g, cap, cur, rfl, hb, hf.obj hh (hn g rfl), hr⟩
theorem row_below {w w' : World} {B : Nat} {e : TypeId} {size : Nat} {v : Value} {n : Nat} {xs : List Value} (h : w.ownsRow B e size v n xs) (hb : Below w.heap.size w w') : w'.ownsRow B e size v n xs :=
  row_fr h (Fr.of_below hb) (fun _ _ hf => hf)
theorem row_slice {w : World} {B : Nat} {e : TypeId} {size : Nat} {v : Value} {n : Nat} {xs : List Value} (h : w.ownsRow B e size v n xs) : ∃ A c, v = .slice A n c := by
  rcases h.2 with ⟨rfl, rfl⟩ | ⟨g, cap, cur, rfl, _⟩
  · exact ⟨_, _, rfl⟩
  · exact ⟨_, _, rfl⟩
theorem row_typed {w : World} {B : Nat} {e : TypeId} {size : Nat} {v : Value} {n : Nat} {xs : List Value} (h : w.ownsRow B e size v n xs) {k : Nat} (hk : v.ownBlock = some k) : B ≤ k ∧ ∃ cs, w.heap[k]? = some (.cells cs e (0, 0)) := by
  rcases h.2 with ⟨rfl, rfl⟩ | ⟨g, cap, cur, rfl, hb, hh, _⟩
  · cases hk
  · cases hk
    exact ⟨hb, cur, hh⟩
end Go.Proofs.Ythcnoamgkkbkcaa
