/- Rows of elements of whatever kind: lengths, places, appends, parts. -/
import Derived.Test.YthcnoamgkkbkcaaBase
namespace Go.Proofs.Ythcnoamgkkbkcaa
open Go.RowKit

/-- How an element of a Go slice lies in cells. -/
structure EK (P : Program) (α : Type) where
  cs : α → List Value
  sz : Nat
  e : TypeId
  t : TypeId
  by_ : Nat
  len : ∀ a, (cs a).length = sz
  one : ∀ a u, u ∈ cs a → u.oneCell' = true
  pos : 0 < sz
  und : P.underlying t = some (.slice e)
  inf : ∃ i z, P.info? e = some i ∧ i.zero = some z ∧ i.size = sz ∧ i.bytes = by_ ∧ z.cells.size = sz
  small : by_ ≤ 4096
theorem ek_inf {P : Program} {e : TypeId} {z : Value} {sz by_ : Nat} (h : (P.info? e).map (fun i => (i.zero, i.size, i.bytes)) = some (some z, sz, by_)) (hz : z.cells.size = sz) :
    ∃ i z, P.info? e = some i ∧ i.zero = some z ∧ i.size = sz ∧ i.bytes = by_ ∧ z.cells.size = sz := by
  rcases e1 : P.info? e with _ | i
  · rw [e1] at h
    cases h
  · rw [e1] at h
    simp only [Option.map_some, Option.some.injEq, Prod.mk.injEq] at h
    exact ⟨i, z, rfl, h.1, h.2.1, h.2.2, hz⟩
section
variable {P : Program} {α : Type} (K : EK P α)
def EK.vals (l : List α) : List Value := l.flatMap K.cs
def EK.row (w : World) (B : Nat) (v : Value) (l : List α) : Prop := w.ownsRow B K.e K.sz v l.length (K.vals l)
/-- A slice that reads as l: a row, or a part of one. -/
def EK.rd (w : World) (v : Value) (l : List α) : Prop := ∃ a c, v = .slice a l.length c ∧ l.length ≤ c ∧ c ≤ maxLen ∧ ((a = none ∧ c = 0) ∨ ∃ ad, a = some ad ∧ ∀ j u, (K.vals l)[j]? = some u → w.cell? (ad.add j) = some u)
variable {K}
theorem EK.vlen (l : List α) : (K.vals l).length = l.length * K.sz := by
  unfold EK.vals
  induction l with
  | nil => simp
  | cons p l ih => rw [List.flatMap_cons, List.length_append, ih, K.len, List.length_cons, Nat.add_mul]; omega
theorem EK.vapp (a b : List α) : K.vals (a ++ b) = K.vals a ++ K.vals b := by simp [EK.vals]
theorem EK.vone {l : List α} {u : Value} (h : u ∈ K.vals l) : u.oneCell' = true := by
  unfold EK.vals at h
  rw [List.mem_flatMap] at h
  obtain ⟨p, _, hp⟩ := h
  exact K.one p u hp
theorem EK.vsplit {l : List α} {k : Nat} (hk : k < l.length) : K.vals l = K.vals (l.take k) ++ (K.cs l[k] ++ K.vals (l.drop (k + 1))) := by
  have e : l = l.take k ++ (l[k] :: l.drop (k + 1)) := by rw [List.getElem_cons_drop, List.take_append_drop]
  have e2 : K.vals (l[k] :: l.drop (k + 1)) = K.cs l[k] ++ K.vals (l.drop (k + 1)) := by simp only [EK.vals, List.flatMap_cons]
  rw [← e2, ← EK.vapp, ← e]
theorem EK.vtake_len {l : List α} {k : Nat} (hk : k ≤ l.length) : (K.vals (l.take k)).length = k * K.sz := by rw [EK.vlen, List.length_take, Nat.min_eq_left hk]
theorem EK.vget {l : List α} {k j : Nat} (hk : k < l.length) (hj : j < K.sz) : (K.vals l)[k * K.sz + j]? = (K.cs l[k])[j]? := by
  have h0 : (K.vals (l.take k)).length = k * K.sz := EK.vtake_len (by omega)
  rw [EK.vsplit hk, List.getElem?_append_right (by omega), h0, List.getElem?_append_left (by rw [K.len]; omega)]
  congr 1
  omega
theorem EK.vdrop {l : List α} {k : Nat} (hk : k ≤ l.length) : K.vals (l.drop k) = (K.vals l).drop (k * K.sz) := by
  have h : K.vals l = K.vals (l.take k) ++ K.vals (l.drop k) := by rw [← EK.vapp, List.take_append_drop]
  rw [h, List.drop_left' (EK.vtake_len hk)]
theorem EK.vtake {l : List α} {k : Nat} (hk : k ≤ l.length) : K.vals (l.take k) = (K.vals l).take (k * K.sz) := by
  have h : K.vals l = K.vals (l.take k) ++ K.vals (l.drop k) := by rw [← EK.vapp, List.take_append_drop]
  rw [h, List.take_left' (EK.vtake_len hk)]
theorem EK.row_below {w w' : World} {B : Nat} {v : Value} {l : List α} (h : K.row w B v l) (hb : Below w.heap.size w w') : K.row w' B v l := by
  refine ⟨h.1, ?_⟩
  rcases h.2 with h2 | ⟨g, cap, cur, h1, h2, h3, h4⟩
  · exact .inl h2
  · exact .inr ⟨g, cap, cur, h1, h2, obj_below h3 hb, h4⟩
theorem EK.row_fr {F : Nat → Prop} {w w' : World} {B : Nat} {v : Value} {l : List α} (h : K.row w B v l) (hf : Fr F w w') (hv : ∀ k, v.ownBlock = some k → ¬ F k) : K.row w' B v l := by
  refine ⟨h.1, ?_⟩
  rcases h.2 with h2 | ⟨g, cap, cur, h1, h2, h3, h4⟩
  · exact .inl h2
  · exact .inr ⟨g, cap, cur, h1, h2, hf.obj h3 (hv g (by rw [h1]; rfl)), h4⟩
theorem EK.row_typed {w : World} {B : Nat} {v : Value} {l : List α} (h : K.row w B v l) {k : Nat} (hk : v.ownBlock = some k) : B ≤ k ∧ k < w.heap.size ∧ ∃ cs, w.heap[k]? = some (.cells cs K.e (0, 0)) := by
  rcases h.2 with ⟨rfl, _⟩ | ⟨g, cap, cur, rfl, h2, h3, _⟩
  · cases hk
  · cases hk
    exact ⟨h2, obj_lt h3, cur, h3⟩
theorem EK.row_belowB {w w' : World} {B B' : Nat} {v : Value} {l : List α} (h : K.row w B v l) (hb : Below B' w w') (hB : ∀ k, v.ownBlock = some k → k < B') : K.row w' B v l := by
  refine ⟨h.1, ?_⟩
  rcases h.2 with h2 | ⟨g, cap, cur, h1, h2, h3, h4⟩
  · exact .inl h2
  · exact .inr ⟨g, cap, cur, h1, h2, (hb.block g (hB g (by rw [h1]; rfl))).trans h3, h4⟩
theorem EK.row_slice {w : World} {B : Nat} {v : Value} {l : List α} (h : K.row w B v l) : ∃ A c, v = .slice A l.length c := by
  rcases h.2 with ⟨rfl, h0⟩ | ⟨g, cap, cur, rfl, _⟩
  · exact ⟨_, _, by rw [h0]⟩
  · exact ⟨_, _, rfl⟩
theorem EK.row_base {w : World} {B B' : Nat} {v : Value} {l : List α} (h : K.row w B v l) (hB : B' ≤ B) : K.row w B' v l := by
  rcases h.2 with h2 | ⟨g, cap, cur, e1, hb, rest⟩
  · exact ⟨h.1, .inl h2⟩
  · exact ⟨h.1, .inr ⟨g, cap, cur, e1, Nat.le_trans hB hb, rest⟩⟩
theorem EK.row_nil (w : World) (B : Nat) : K.row w B (.slice none 0 0) [] := World.ownsRow_nil _ _ _ _
theorem EK.row_rd {w : World} {B : Nat} {v : Value} {l : List α} (h : K.row w B v l) : K.rd w v l := by
  rcases h.2 with ⟨rfl, h0⟩ | ⟨g, cap, cur, rfl, hb, hh, hn, hm, hc, ht⟩
  · exact ⟨none, 0, by rw [h0], by omega, Nat.zero_le _, .inl ⟨rfl, rfl⟩⟩
  · refine ⟨_, _, rfl, hn, hm, .inr ⟨_, rfl, fun j u hu => ?_⟩⟩
    have hj : j < l.length * K.sz := by
      have := (List.getElem?_eq_some_iff.1 hu).1
      rwa [EK.vlen] at this
    rw [show (⟨g, 0, none⟩ : Addr).add j = ⟨g, 0 + j, none⟩ from by unfold Addr.add; split <;> simp_all, Nat.zero_add, obj_cell hh, ← hu, ← ht, List.getElem?_take, if_pos hj, Array.getElem?_toList]
theorem EK.rd_below {w w' : World} {v : Value} {l : List α} (h : K.rd w v l) (hb : Below w.heap.size w w') : K.rd w' v l := by
  obtain ⟨a, c, h1, h2, h3, h4⟩ := h
  exact ⟨a, c, h1, h2, h3, h4.imp id (fun ⟨ad, e, h5⟩ => ⟨ad, e, fun j u hu => (hb.cell (World.block_lt_of_cell? _ _ (h5 j u hu))).trans (h5 j u hu)⟩)⟩
theorem EK.row_cells {w : World} {B : Nat} {v : Value} {l : List α} (h : K.row w B v l) {k : Nat} (hk : k < l.length) : ∃ r cap, v = .slice (some ⟨r, 0, none⟩) l.length cap ∧ l.length ≤ cap ∧ cap ≤ maxLen ∧ B ≤ r ∧ r < w.heap.size ∧
    ∀ j, j < K.sz → w.cell? ⟨r, k * K.sz + j, none⟩ = (K.cs l[k])[j]? := by
  rcases h.2 with ⟨_, h0⟩ | ⟨g', cap, cur, e, hb, hc, hn, hm, hs, ht⟩
  · omega
  · refine ⟨g', cap, e, hn, hm, hb, obj_lt hc, fun j hj => ?_⟩
    have h1 : k * K.sz + j < l.length * K.sz := by
      have : (k + 1) * K.sz ≤ l.length * K.sz := Nat.mul_le_mul_right _ hk
      rw [Nat.add_mul] at this
      omega
    rw [obj_cell hc, ← EK.vget hk hj, ← ht, List.getElem?_take, if_pos h1, Array.getElem?_toList]
theorem EK.row_frozen {w : World} {B r n cap : Nat} {l : List α} (h : K.row w B (.slice (some ⟨r, 0, none⟩) n cap) l) (j : Nat) : w.frozen? ⟨r, j, none⟩ = false := by
  rcases h.2 with ⟨e, _⟩ | ⟨g', cap', cur, e, h0, hc, hn, hm, hs, ht⟩
  · cases e
  cases e
  exact obj_frozen hc j
/-- One cell of one element is set. -/
theorem EK.row_set {w : World} {B r n cap : Nat} {l : List α} (h : K.row w B (.slice (some ⟨r, 0, none⟩) n cap) l) {k j : Nat} (hk : k < l.length) (hj : j < K.sz) (q : α) (u : Value) (hq : K.cs q = (K.cs l[k]).set j u) :
    K.row (w.setCell ⟨r, k * K.sz + j, none⟩ u) B (.slice (some ⟨r, 0, none⟩) n cap) (l.set k q) := by
  rcases h.2 with ⟨e, _⟩ | ⟨g', cap', cur, e, h0, hc, hn, hm, hs, ht⟩
  · cases e
  cases e
  have h3 : (K.vals (l.take k)).length = k * K.sz := EK.vtake_len (by omega)
  have hv : K.vals (l.set k q) = (K.vals l).set (k * K.sz + j) u := by
    rw [EK.vsplit hk, List.set_append_right _ _ (by omega), h3, show k * K.sz + j - k * K.sz = j from by omega, List.set_append_left _ _ (by rw [K.len]; exact hj), ← hq, List.set_eq_take_append_cons_drop, if_pos hk, EK.vapp]
    simp only [EK.vals, List.flatMap_cons]
  unfold EK.row
  rw [List.length_set]
  refine ⟨by rw [EK.vlen, List.length_set], .inr ⟨r, _, cur.setIfInBounds (k * K.sz + j) u, rfl, h0, obj_set hc _ _, hn, hm, by simpa using hs, ?_⟩⟩
  rw [hv, ← ht, Array.toList_setIfInBounds, List.take_set]
/-- append: a slice behind a row. -/
theorem EK.app {w : World} {B : Nat} {v v2 : Value} {l q : List α} (h : K.row w B v l) (h2 : K.rd w v2 q) (hl : l.length + q.length ≤ 1073741824) (hB : B ≤ w.heap.size) (ty : TypeId) :
    ∃ v' w', (Builtin.append_ #[K.t, K.t] ty #[v, v2]).run P w = .ok v' w' ∧ K.row w' B v' (l ++ q) ∧ Fr (fun j => v.ownBlock = some j) w w' ∧ (v'.ownBlock = v.ownBlock ∨ v'.ownBlock = some w.heap.size) := by
  obtain ⟨i0, z0, hi0, hz0, hz1, hz2, hz3⟩ := K.inf
  have hsm := K.small
  obtain ⟨a, c, rfl, hc1, hc2, h3⟩ := h2
  rcases h3 with ⟨rfl, rfl⟩ | ⟨ad, rfl, h3⟩
  · have hq : q = [] := List.length_eq_zero_iff.1 (by omega)
    subst hq
    rw [List.append_nil]
    exact ⟨v, w, run_append_owned_none (P := P) (w := w) B K.t ty K.e i0 K.sz K.und hi0 v l.length (K.vals l) h, h, Fr.refl _ _, .inl rfl⟩
  · obtain ⟨v', w', hrun, hown, hgr, _, hv⟩ := run_append_own_at (P := P) w B K.t ty K.e i0 z0 K.sz K.by_ K.und hi0 hz0 hz1 hz2 hz3 K.pos v l.length (K.vals l) h ad q.length c (K.vals q) (EK.vlen q) h3 (fun u hu => EK.vone hu) (by simp only [maxLen]; omega) (by
        have : (l.length + q.length) * K.by_ ≤ 1073741824 * 4096 := Nat.mul_le_mul hl hsm
        omega) hB
    refine ⟨v', w', hrun, ?_, (Fr.refl _ w).grown hgr (fun k hk _ => hk), hv⟩
    unfold EK.row
    rw [EK.vapp, List.length_append]
    exact hown
/-- A new cell row of one element reads as that one. -/
theorem EK.rd_one {w : World} {b : Nat} (q : α) (hb : w.heap[b]? = some (.cells (K.cs q).toArray K.e (0, 0))) : K.rd w (.slice (some ⟨b, 0, none⟩) 1 1) [q] := by
  refine ⟨_, 1, rfl, Nat.le_refl _, by decide, .inr ⟨_, rfl, fun j u hu => ?_⟩⟩
  rw [show (⟨b, 0, none⟩ : Addr).add j = ⟨b, 0 + j, none⟩ from by unfold Addr.add; split <;> simp_all, Nat.zero_add, obj_cell hb, ← Array.getElem?_toList]
  simpa [EK.vals] using hu
/-- x[lo:hi], as a value. -/
def partV (sz : Nat) (v : Value) (lo hi : Nat) : Value := match v with
  | .slice a _ c => .slice (if c = lo then a else a.map (·.add (lo * sz))) (hi - lo) (c - lo)
  | _ => undef
/-- x[lo:hi] of a row. -/
theorem EK.part {w : World} {B : Nat} {v : Value} {l : List α} (h : K.row w B v l) {lo hi : Nat} (h1 : lo ≤ hi) (h2 : hi ≤ l.length) (lo' hi' : Option Value) (hl : (lo' = none ∧ lo = 0) ∨ lo' = some (.int .i64 (lo : Int))) (hh : (hi' = none ∧ hi = l.length) ∨ hi' = some (.int .i64 (hi : Int))) :
    (Instr.sliceAt K.t v lo' hi' none).run P w = .ok (partV K.sz v lo hi) w ∧ K.rd w (partV K.sz v lo hi) ((l.drop lo).take (hi - lo)) := by
  obtain ⟨i0, z0, hi0, hz0, hz1, hz2, hz3⟩ := K.inf
  have hlen : ((l.drop lo).take (hi - lo)).length = hi - lo := by rw [List.length_take, List.length_drop]; omega
  rcases h.2 with ⟨rfl, h0⟩ | ⟨g, cap, cur, rfl, hb, hc, hn, hm, hs, ht⟩
  · have hhi : hi = 0 := by omega
    have hlo : lo = 0 := by omega
    subst hhi hlo
    have hl0 : l = [] := List.length_eq_zero_iff.1 h0
    subst hl0
    rw [show partV K.sz (.slice none 0 0) 0 0 = .slice none 0 0 from rfl]
    refine ⟨?_, none, 0, rfl, Nat.le_refl _, Nat.zero_le _, .inl ⟨rfl, rfl⟩⟩
    rcases hl with ⟨rfl, _⟩ | rfl <;> rcases hh with ⟨rfl, _⟩ | rfl <;> simp [Instr.sliceAt, Instr.slice, Instr.sliceBounds, Instr.sliceBound, asIntOf, run_underlying K.und, sizeOf, typeInfo, hi0]
  · obtain ⟨ad, had⟩ : ∃ ad : Addr, ad = if cap = lo then ⟨g, 0, none⟩ else (⟨g, 0, none⟩ : Addr).add (lo * K.sz) := ⟨_, rfl⟩
    have hrun : (Instr.sliceAt K.t (.slice (some ⟨g, 0, none⟩) l.length cap) lo' hi' none).run P w = .ok (.slice (some ad) (hi - lo) (cap - lo)) w := by
      have e1 : ¬ cap < hi := by omega
      have e2 : ¬ hi < lo := by omega
      have e3 : hi ≤ cap := by omega
      have key : ∀ x : Nat, x = hi → (if cap = lo then some (⟨g, 0, none⟩ : Addr) else some ((⟨g, 0, none⟩ : Addr).add (lo * K.sz))) = some ad := fun _ _ => by rw [had]; split <;> rfl
      rcases hl with ⟨rfl, rfl⟩ | rfl <;> rcases hh with ⟨rfl, rfl⟩ | rfl <;>
        simp [Instr.sliceAt, Instr.slice, Instr.sliceBounds, Instr.sliceBound, asIntOf, run_underlying K.und, sizeOf, typeInfo, hi0, hz1, h1, e3, had] <;> split <;> simp_all
    have hpv : partV K.sz (.slice (some ⟨g, 0, none⟩) l.length cap) lo hi = .slice (some ad) (hi - lo) (cap - lo) := by
      rw [had]
      show Value.slice (if cap = lo then some ⟨g, 0, none⟩ else (some (⟨g, 0, none⟩ : Addr)).map (·.add (lo * K.sz))) (hi - lo) (cap - lo) = _
      congr 1
      split <;> rfl
    rw [hpv]
    refine ⟨hrun, some ad, cap - lo, by rw [hlen], by rw [hlen]; omega, by omega, .inr ⟨ad, rfl, fun j u hu => ?_⟩⟩
    have hj : j < (hi - lo) * K.sz := by
      have := (List.getElem?_eq_some_iff.1 hu).1
      rwa [EK.vlen, hlen] at this
    have hlo : cap ≠ lo := by
      rintro rfl
      have : hi - cap = 0 := by omega
      rw [this] at hj
      omega
    rw [if_neg hlo] at had
    rw [had, show ((⟨g, 0, none⟩ : Addr).add (lo * K.sz)).add j = ⟨g, lo * K.sz + j, none⟩ from by unfold Addr.add; repeat (split) <;> simp_all, obj_cell hc]
    rw [EK.vtake (by rw [List.length_drop]; omega), EK.vdrop (by omega), List.getElem?_take, if_pos hj, List.getElem?_drop, ← ht, List.getElem?_take] at hu
    split at hu
    · rw [← Array.getElem?_toList]
      exact hu
    · cases hu
end
end Go.Proofs.Ythcnoamgkkbkcaa
