/- Rows: an element is stored; a field of an element is stored. -/
import Derived.Test.YthcnoamgkkbkcaaGr
import Derived.Deep.MidRow
namespace Go.Proofs.Ythcnoamgkkbkcaa
open Go.RowKit

def stl (cur : Array Value) : Nat → List Value → Array Value
  | _, [] => cur
  | o, v :: vs => stl (cur.setIfInBounds o v) (o + 1) vs
theorem stl_size : ∀ (vs : List Value) (o : Nat) (cur : Array Value), (stl cur o vs).size = cur.size
  | [], _, _ => rfl
  | v :: vs, o, cur => by rw [stl, stl_size vs]; simp
theorem stl_get : ∀ (vs : List Value) (o : Nat) (cur : Array Value) (t : Nat), o + vs.length ≤ cur.size → (stl cur o vs)[t]? = if o ≤ t ∧ t < o + vs.length then vs[t - o]? else cur[t]?
  | [], o, cur, t, _ => by
    rw [if_neg (by simp)]
    rfl
  | v :: vs, o, cur, t, h => by
    rw [List.length_cons] at h
    rw [stl, stl_get vs (o + 1) _ t (by simp; omega)]
    by_cases h1 : o + 1 ≤ t ∧ t < o + 1 + vs.length
    · rw [if_pos h1, if_pos (by rw [List.length_cons]; omega)]
      obtain ⟨u, rfl⟩ : ∃ u, t = o + 1 + u := ⟨t - (o + 1), by omega⟩
      rw [show o + 1 + u - (o + 1) = u by omega, show o + 1 + u - o = u + 1 by omega, List.getElem?_cons_succ]
    · rw [if_neg h1]
      by_cases h2 : t = o
      · subst h2
        rw [if_pos (by rw [List.length_cons]; omega), Nat.sub_self, List.getElem?_cons_zero, Array.getElem?_setIfInBounds_self_of_lt (by omega)]
      · rw [if_neg (by rw [List.length_cons]; omega), Array.getElem?_setIfInBounds_ne (Ne.symm h2)]
theorem setCells_at {b : Nat} {t : TypeId} : ∀ (vs : List Value) (o : Nat) (w : World) (cur : Array Value), w.heap[b]? = some (.cells cur t (0, 0)) → (w.setCells b o vs).heap[b]? = some (.cells (stl cur o vs) t (0, 0))
  | [], _, _, _, h => h
  | v :: vs, o, _, _, h => setCells_at vs (o + 1) _ _ (obj_set h o v)
theorem setCells_fr (b : Nat) : ∀ (vs : List Value) (o : Nat) (w : World), Fr (fun j => j = b) w (w.setCells b o vs)
  | [], _, _ => Fr.refl _ _
  | v :: vs, o, w => ((Fr.refl (fun j => j = b) w).setCell (p := ⟨b, o, none⟩) (fun _ => rfl) v).trans (setCells_fr b vs (o + 1) _) (fun _ _ e => e)
section
variable {P : Program} {α : Type} {K : EK P α}
theorem EK.vset {l : List α} {k : Nat} (hk : k < l.length) (x : α) (t : Nat) : (K.vals (l.set k x))[t]? = if k * K.sz ≤ t ∧ t < k * K.sz + K.sz then (K.cs x)[t - k * K.sz]? else (K.vals l)[t]? := by
  have h0 := K.pos
  by_cases ht : t < l.length * K.sz
  · have hq : t / K.sz < l.length := (Nat.div_lt_iff_lt_mul h0).2 ht
    have hr : t % K.sz < K.sz := Nat.mod_lt _ h0
    have e1 := EK.vget (K := K) (l := l.set k x) (k := t / K.sz) (j := t % K.sz) (by simpa using hq) hr
    have e2 := EK.vget (K := K) (l := l) (k := t / K.sz) (j := t % K.sz) hq hr
    rw [Nat.div_add_mod' t K.sz] at e1 e2
    rw [e1, e2]
    have hd := Nat.div_add_mod' t K.sz
    by_cases hkq : k = t / K.sz
    · subst hkq
      rw [if_pos (by omega), List.getElem_set_self, show t - t / K.sz * K.sz = t % K.sz by omega]
    · rw [List.getElem_set_ne hkq, if_neg]
      rintro ⟨h1, h2⟩
      exact hkq ((Nat.div_eq_of_lt_le h1 (by rw [Nat.add_mul, Nat.one_mul]; exact h2)).symm)
  · have hl : l.length * K.sz ≤ t := by omega
    have hk2 : (k + 1) * K.sz ≤ l.length * K.sz := Nat.mul_le_mul_right _ hk
    rw [Nat.add_mul, Nat.one_mul] at hk2
    rw [if_neg (by omega), List.getElem?_eq_none (by rw [EK.vlen, List.length_set]; exact hl), List.getElem?_eq_none (by rw [EK.vlen]; exact hl)]
/-- xs[k] = x. -/
theorem EK.row_put {w : World} {B r n cap : Nat} {l : List α} (h : K.row w B (.slice (some ⟨r, 0, none⟩) n cap) l) {k : Nat} (hk : k < l.length) (x : α) :
    (Instr.storeAt K.e (.pointer (some ⟨r, k * K.sz, none⟩)) (.agg (K.cs x).toArray)).run P w = .ok () (w.setCells r (k * K.sz) (K.cs x)) ∧ K.row (w.setCells r (k * K.sz) (K.cs x)) B (.slice (some ⟨r, 0, none⟩) n cap) (l.set k x) ∧ Fr (fun j => j = r) w (w.setCells r (k * K.sz) (K.cs x)) := by
  rcases h.2 with ⟨e, _⟩ | ⟨g, cap', cur, e, hb, hc, hn, hm, hs, ht⟩
  · cases e
  cases e
  have hk2 : (k + 1) * K.sz ≤ l.length * K.sz := Nat.mul_le_mul_right _ hk
  have hn2 : l.length * K.sz ≤ cur.size := by rw [hs]; exact Nat.mul_le_mul_right _ hn
  rw [Nat.add_mul, Nat.one_mul] at hk2
  have hlen := K.len x
  obtain ⟨i, z, hi1, hi2, hi3, hi4, hi5⟩ := K.inf
  unfold EK.row
  rw [List.length_set]
  refine ⟨?_, ⟨by rw [EK.vlen, List.length_set], .inr ⟨r, cap, stl cur (k * K.sz) (K.cs x), rfl, hb, setCells_at _ _ _ _ hc, hn, hm, by rw [stl_size]; exact hs, ?_⟩⟩, setCells_fr r _ _ _⟩
  · refine Go.run_storeAt_mid w r (k * K.sz) K.e (K.cs x).toArray (fun j hj => ?_) (by rw [hi1]; simp [hi3, hlen]) (Go.all_oneCell_toArray (fun v hv => K.one x v hv))
    have hj' : j < K.sz := by simpa [hlen] using hj
    refine ⟨?_, obj_frozen hc _⟩
    rw [obj_cell hc]
    rw [Array.getElem?_eq_getElem (by omega)]
    rfl
  · apply List.ext_getElem?
    intro t
    rw [List.getElem?_take, EK.vset hk]
    by_cases htl : t < l.length * K.sz
    · rw [if_pos htl, Array.getElem?_toList, stl_get _ _ _ _ (by omega), hlen]
      split
      · rfl
      · rw [← ht, List.getElem?_take, if_pos htl, Array.getElem?_toList]
    · rw [if_neg htl, if_neg (by omega), List.getElem?_eq_none]
      rw [EK.vlen]
      omega
end
end Go.Proofs.Ythcnoamgkkbkcaa
