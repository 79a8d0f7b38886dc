/- A join of 3 texts of this claim: Gr, NtR1, NtR2. Conditions: none of their own. -/
import Derived.Test.YtljmaicobafgkaaN0
import Derived.Test.YtljmaicobafgkaaN10
import Derived.ChangeKeysEq
section
/- Rows of elements of whatever kind: lengths, places, appends, parts. -/
namespace Go.Proofs.Ytljmaicobafgkaa
open Go.RowKit

/-- How an element of a Go slice lies in cells. -/
structure EK (P : Program) (α : Type) where
  cs : α → List Value
  sz : Nat
  e : TypeId
  t : TypeId
  by_ : Nat
  len : ∀ a, (cs a).length = sz
  one : ∀ a u, u ∈ cs a → u.oneCell' = true
  pos : 0 < sz
  und : P.underlying t = some (.slice e)
  inf : ∃ i z, P.info? e = some i ∧ i.zero = some z ∧ i.size = sz ∧ i.bytes = by_ ∧ z.cells.size = sz
  small : by_ ≤ 4096
theorem ek_inf {P : Program} {e : TypeId} {z : Value} {sz by_ : Nat} (h : (P.info? e).map (fun i => (i.zero, i.size, i.bytes)) = some (some z, sz, by_)) (hz : z.cells.size = sz) :
    ∃ i z, P.info? e = some i ∧ i.zero = some z ∧ i.size = sz ∧ i.bytes = by_ ∧ z.cells.size = sz := by
  rcases e1 : P.info? e with _ | i
  · rw [e1] at h
    cases h
  · rw [e1] at h
    simp only [Option.map_some, Option.some.injEq, Prod.mk.injEq] at h
    exact ⟨i, z, rfl, h.1, h.2.1, h.2.2, hz⟩
section
variable {P : Program} {α : Type} (K : EK P α)
def EK.vals (l : List α) : List Value := l.flatMap K.cs
def EK.row (w : World) (B : Nat) (v : Value) (l : List α) : Prop := w.ownsRow B K.e K.sz v l.length (K.vals l)
/-- A slice that reads as l: a row, or a part of one. -/
def EK.rd (w : World) (v : Value) (l : List α) : Prop := ∃ a c, v = .slice a l.length c ∧ l.length ≤ c ∧ c ≤ maxLen ∧ ((a = none ∧ c = 0) ∨ ∃ ad, a = some ad ∧ ∀ j u, (K.vals l)[j]? = some u → w.cell? (ad.add j) = some u)
variable {K}
theorem EK.vlen (l : List α) : (K.vals l).length = l.length * K.sz := by
  unfold EK.vals
  induction l with
  | nil => simp
  | cons p l ih => rw [List.flatMap_cons, List.length_append, ih, K.len, List.length_cons, Nat.add_mul]; omega
theorem EK.vapp (a b : List α) : K.vals (a ++ b) = K.vals a ++ K.vals b := by simp [EK.vals]
theorem EK.vone {l : List α} {u : Value} (h : u ∈ K.vals l) : u.oneCell' = true := by
  unfold EK.vals at h
  rw [List.mem_flatMap] at h
  obtain ⟨p, _, hp⟩ := h
  exact K.one p u hp
theorem EK.vsplit {l : List α} {k : Nat} (hk : k < l.length) : K.vals l = K.vals (l.take k) ++ (K.cs l[k] ++ K.vals (l.drop (k + 1))) := by
  have e : l = l.take k ++ (l[k] :: l.drop (k + 1)) := by rw [List.getElem_cons_drop, List.take_append_drop]
  have e2 : K.vals (l[k] :: l.drop (k + 1)) = K.cs l[k] ++ K.vals (l.drop (k + 1)) := by simp only [EK.vals, List.flatMap_cons]
  rw [← e2, ← EK.vapp, ← e]
theorem EK.vtake_len {l : List α} {k : Nat} (hk : k ≤ l.length) : (K.vals (l.take k)).length = k * K.sz := by rw [EK.vlen, List.length_take, Nat.min_eq_left hk]
theorem EK.vget {l : List α} {k j : Nat} (hk : k < l.length) (hj : j < K.sz) : (K.vals l)[k * K.sz + j]? = (K.cs l[k])[j]? := by
  have h0 : (K.vals (l.take k)).length = k * K.sz := EK.vtake_len (by omega)
  rw [EK.vsplit hk, List.getElem?_append_right (by omega), h0, List.getElem?_append_left (by rw [K.len]; omega)]
  congr 1
  omega
theorem EK.vdrop {l : List α} {k : Nat} (hk : k ≤ l.length) : K.vals (l.drop k) = (K.vals l).drop (k * K.sz) := by
  have h : K.vals l = K.vals (l.take k) ++ K.vals (l.drop k) := by rw [← EK.vapp, List.take_append_drop]
  rw [h, List.drop_left' (EK.vtake_len hk)]
theorem EK.vtake {l : List α} {k : Nat} (hk : k ≤ l.length) : K.vals (l.take k) = (K.vals l).take (k * K.sz) := by
  have h : K.vals l = K.vals (l.take k) ++ K.vals (l.drop k) := by rw [← EK.vapp, List.take_append_drop]
  rw [h, List.take_left' (EK.vtake_len hk)]
theorem EK.row_below {w w' : World} {B : Nat} {v : Value} {l : List α} (h : K.row w B v l) (hb : Below w.heap.size w w') : K.row w' B v l := by
  refine ⟨h.1, ?_⟩
  rcases h.2 with h2 | ⟨g, cap, cur, h1, h2, h3, h4⟩
  · exact .inl h2
  · exact .inr ⟨g, cap, cur, h1, h2, obj_below h3 hb, h4⟩
theorem EK.row_fr {F : Nat → Prop} {w w' : World} {B : Nat} {v : Value} {l : List α} (h : K.row w B v l) (hf : Fr F w w') (hv : ∀ k, v.ownBlock = some k → ¬ F k) : K.row w' B v l := by
  refine ⟨h.1, ?_⟩
  rcases h.2 with h2 | ⟨g, cap, cur, h1, h2, h3, h4⟩
  · exact .inl h2
  · exact .inr ⟨g, cap, cur, h1, h2, hf.obj h3 (hv g (by rw [h1]; rfl)), h4⟩
theorem EK.row_typed {w : World} {B : Nat} {v : Value} {l : List α} (h : K.row w B v l) {k : Nat} (hk : v.ownBlock = some k) : B ≤ k ∧ k < w.heap.size ∧ ∃ cs, w.heap[k]? = some (.cells cs K.e (0, 0)) := by
  rcases h.2 with ⟨rfl, _⟩ | ⟨g, cap, cur, rfl, h2, h3, _⟩
  · cases hk
  · cases hk
    exact ⟨h2, obj_lt h3, cur, h3⟩
theorem EK.row_belowB {w w' : World} {B B' : Nat} {v : Value} {l : List α} (h : K.row w B v l) (hb : Below B' w w') (hB : ∀ k, v.ownBlock = some k → k < B') : K.row w' B v l := by
  refine ⟨h.1, ?_⟩
  rcases h.2 with h2 | ⟨g, cap, cur, h1, h2, h3, h4⟩
  · exact .inl h2
  · exact .inr ⟨g, cap, cur, h1, h2, (hb.block g (hB g (by rw [h1]; rfl))).trans h3, h4⟩
theorem EK.row_slice {w : World} {B : Nat} {v : Value} {l : List α} (h : K.row w B v l) : ∃ A c, v = .slice A l.length c := by
  rcases h.2 with ⟨rfl, h0⟩ | ⟨g, cap, cur, rfl, _⟩
  · exact ⟨_, _, by rw [h0]⟩
  · exact ⟨_, _, rfl⟩
theorem EK.row_base {w : World} {B B' : Nat} {v : Value} {l : List α} (h : K.row w B v l) (hB : B' ≤ B) : K.row w B' v l := by
  rcases h.2 with h2 | ⟨g, cap, cur, e1, hb, rest⟩
  · exact ⟨h.1, .inl h2⟩
  · exact ⟨h.1, .inr ⟨g, cap, cur, e1, Nat.le_trans hB hb, rest⟩⟩
theorem EK.row_nil (w : World) (B : Nat) : K.row w B (.slice none 0 0) [] := World.ownsRow_nil _ _ _ _
theorem EK.row_rd {w : World} {B : Nat} {v : Value} {l : List α} (h : K.row w B v l) : K.rd w v l := by
  rcases h.2 with ⟨rfl, h0⟩ | ⟨g, cap, cur, rfl, hb, hh, hn, hm, hc, ht⟩
  · exact ⟨none, 0, by rw [h0], by omega, Nat.zero_le _, .inl ⟨rfl, rfl⟩⟩
  · refine ⟨_, _, rfl, hn, hm, .inr ⟨_, rfl, fun j u hu => ?_⟩⟩
    have hj : j < l.length * K.sz := by
      have := (List.getElem?_eq_some_iff.1 hu).1
      rwa [EK.vlen] at this
    rw [show (⟨g, 0, none⟩ : Addr).add j = ⟨g, 0 + j, none⟩ from by unfold Addr.add; split <;> simp_all, Nat.zero_add, obj_cell hh, ← hu, ← ht, List.getElem?_take, if_pos hj, Array.getElem?_toList]
theorem EK.rd_below {w w' : World} {v : Value} {l : List α} (h : K.rd w v l) (hb : Below w.heap.size w w') : K.rd w' v l := by
  obtain ⟨a, c, h1, h2, h3, h4⟩ := h
  exact ⟨a, c, h1, h2, h3, h4.imp id (fun ⟨ad, e, h5⟩ => ⟨ad, e, fun j u hu => (hb.cell (World.block_lt_of_cell? _ _ (h5 j u hu))).trans (h5 j u hu)⟩)⟩
theorem EK.row_cells {w : World} {B : Nat} {v : Value} {l : List α} (h : K.row w B v l) {k : Nat} (hk : k < l.length) : ∃ r cap, v = .slice (some ⟨r, 0, none⟩) l.length cap ∧ l.length ≤ cap ∧ cap ≤ maxLen ∧ B ≤ r ∧ r < w.heap.size ∧
    ∀ j, j < K.sz → w.cell? ⟨r, k * K.sz + j, none⟩ = (K.cs l[k])[j]? := by
  rcases h.2 with ⟨_, h0⟩ | ⟨g', cap, cur, e, hb, hc, hn, hm, hs, ht⟩
  · omega
  · refine ⟨g', cap, e, hn, hm, hb, obj_lt hc, fun j hj => ?_⟩
    have h1 : k * K.sz + j < l.length * K.sz := by
      have : (k + 1) * K.sz ≤ l.length * K.sz := Nat.mul_le_mul_right _ hk
      rw [Nat.add_mul] at this
      omega
    rw [obj_cell hc, ← EK.vget hk hj, ← ht, List.getElem?_take, if_pos h1, Array.getElem?_toList]
theorem EK.row_frozen {w : World} {B r n cap : Nat} {l : List α} (h : K.row w B (.slice (some ⟨r, 0, none⟩) n cap) l) (j : Nat) : w.frozen? ⟨r, j, none⟩ = false := by
  rcases h.2 with ⟨e, _⟩ | ⟨g', cap', cur, e, h0, hc, hn, hm, hs, ht⟩
  · cases e
  cases e
  exact obj_frozen hc j
/-- One cell of one element is set. -/
theorem EK.row_set {w : World} {B r n cap : Nat} {l : List α} (h : K.row w B (.slice (some ⟨r, 0, none⟩) n cap) l) {k j : Nat} (hk : k < l.length) (hj : j < K.sz) (q : α) (u : Value) (hq : K.cs q = (K.cs l[k]).set j u) :
    K.row (w.setCell ⟨r, k * K.sz + j, none⟩ u) B (.slice (some ⟨r, 0, none⟩) n cap) (l.set k q) := by
  rcases h.2 with ⟨e, _⟩ | ⟨g', cap', cur, e, h0, hc, hn, hm, hs, ht⟩
  · cases e
  cases e
  have h3 : (K.vals (l.take k)).length = k * K.sz := EK.vtake_len (by omega)
  have hv : K.vals (l.set k q) = (K.vals l).set (k * K.sz + j) u := by
    rw [EK.vsplit hk, List.set_append_right _ _ (by omega), h3, show k * K.sz + j - k * K.sz = j from by omega, List.set_append_left _ _ (by rw [K.len]; exact hj), ← hq, List.set_eq_take_append_cons_drop, if_pos hk, EK.vapp]
    simp only [EK.vals, List.flatMap_cons]
  unfold EK.row
  rw [List.length_set]
  refine ⟨by rw [EK.vlen, List.length_set], .inr ⟨r, _, cur.setIfInBounds (k * K.sz + j) u, rfl, h0, obj_set hc _ _, hn, hm, by simpa using hs, ?_⟩⟩
  rw [hv, ← ht, Array.toList_setIfInBounds, List.take_set]
/-- append: a slice behind a row. -/
theorem EK.app {w : World} {B : Nat} {v v2 : Value} {l q : List α} (h : K.row w B v l) (h2 : K.rd w v2 q) (hl : l.length + q.length ≤ 1073741824) (hB : B ≤ w.heap.size) (ty : TypeId) :
    ∃ v' w', (Builtin.append_ #[K.t, K.t] ty #[v, v2]).run P w = .ok v' w' ∧ K.row w' B v' (l ++ q) ∧ Fr (fun j => v.ownBlock = some j) w w' ∧ (v'.ownBlock = v.ownBlock ∨ v'.ownBlock = some w.heap.size) := by
  obtain ⟨i0, z0, hi0, hz0, hz1, hz2, hz3⟩ := K.inf
  have hsm := K.small
  obtain ⟨a, c, rfl, hc1, hc2, h3⟩ := h2
  rcases h3 with ⟨rfl, rfl⟩ | ⟨ad, rfl, h3⟩
  · have hq : q = [] := List.length_eq_zero_iff.1 (by omega)
    subst hq
    rw [List.append_nil]
    exact ⟨v, w, run_append_owned_none (P := P) (w := w) B K.t ty K.e i0 K.sz K.und hi0 v l.length (K.vals l) h, h, Fr.refl _ _, .inl rfl⟩
  · obtain ⟨v', w', hrun, hown, hgr, _, hv⟩ := run_append_own_at (P := P) w B K.t ty K.e i0 z0 K.sz K.by_ K.und hi0 hz0 hz1 hz2 hz3 K.pos v l.length (K.vals l) h ad q.length c (K.vals q) (EK.vlen q) h3 (fun u hu => EK.vone hu) (by simp only [maxLen]; omega) (by
        have : (l.length + q.length) * K.by_ ≤ 1073741824 * 4096 := Nat.mul_le_mul hl hsm
        omega) hB
    refine ⟨v', w', hrun, ?_, (Fr.refl _ w).grown hgr (fun k hk _ => hk), hv⟩
    unfold EK.row
    rw [EK.vapp, List.length_append]
    exact hown
/-- A new cell row of one element reads as that one. -/
theorem EK.rd_one {w : World} {b : Nat} (q : α) (hb : w.heap[b]? = some (.cells (K.cs q).toArray K.e (0, 0))) : K.rd w (.slice (some ⟨b, 0, none⟩) 1 1) [q] := by
  refine ⟨_, 1, rfl, Nat.le_refl _, by decide, .inr ⟨_, rfl, fun j u hu => ?_⟩⟩
  rw [show (⟨b, 0, none⟩ : Addr).add j = ⟨b, 0 + j, none⟩ from by unfold Addr.add; split <;> simp_all, Nat.zero_add, obj_cell hb, ← Array.getElem?_toList]
  simpa [EK.vals] using hu
/-- x[lo:hi], as a value. -/
def partV (sz : Nat) (v : Value) (lo hi : Nat) : Value := match v with
  | .slice a _ c => .slice (if c = lo then a else a.map (·.add (lo * sz))) (hi - lo) (c - lo)
  | _ => undef
/-- x[lo:hi] of a row. -/
theorem EK.part {w : World} {B : Nat} {v : Value} {l : List α} (h : K.row w B v l) {lo hi : Nat} (h1 : lo ≤ hi) (h2 : hi ≤ l.length) (lo' hi' : Option Value) (hl : (lo' = none ∧ lo = 0) ∨ lo' = some (.int .i64 (lo : Int))) (hh : (hi' = none ∧ hi = l.length) ∨ hi' = some (.int .i64 (hi : Int))) :
    (Instr.sliceAt K.t v lo' hi' none).run P w = .ok (partV K.sz v lo hi) w ∧ K.rd w (partV K.sz v lo hi) ((l.drop lo).take (hi - lo)) := by
  obtain ⟨i0, z0, hi0, hz0, hz1, hz2, hz3⟩ := K.inf
  have hlen : ((l.drop lo).take (hi - lo)).length = hi - lo := by rw [List.length_take, List.length_drop]; omega
  rcases h.2 with ⟨rfl, h0⟩ | ⟨g, cap, cur, rfl, hb, hc, hn, hm, hs, ht⟩
  · have hhi : hi = 0 := by omega
    have hlo : lo = 0 := by omega
    subst hhi hlo
    have hl0 : l = [] := List.length_eq_zero_iff.1 h0
    subst hl0
    rw [show partV K.sz (.slice none 0 0) 0 0 = .slice none 0 0 from rfl]
    refine ⟨?_, none, 0, rfl, Nat.le_refl _, Nat.zero_le _, .inl ⟨rfl, rfl⟩⟩
    rcases hl with ⟨rfl, _⟩ | rfl <;> rcases hh with ⟨rfl, _⟩ | rfl <;> simp [Instr.sliceAt, Instr.slice, Instr.sliceBounds, Instr.sliceBound, asIntOf, run_underlying K.und, sizeOf, typeInfo, hi0]
  · obtain ⟨ad, had⟩ : ∃ ad : Addr, ad = if cap = lo then ⟨g, 0, none⟩ else (⟨g, 0, none⟩ : Addr).add (lo * K.sz) := ⟨_, rfl⟩
    have hrun : (Instr.sliceAt K.t (.slice (some ⟨g, 0, none⟩) l.length cap) lo' hi' none).run P w = .ok (.slice (some ad) (hi - lo) (cap - lo)) w := by
      have e1 : ¬ cap < hi := by omega
      have e2 : ¬ hi < lo := by omega
      have e3 : hi ≤ cap := by omega
      have key : ∀ x : Nat, x = hi → (if cap = lo then some (⟨g, 0, none⟩ : Addr) else some ((⟨g, 0, none⟩ : Addr).add (lo * K.sz))) = some ad := fun _ _ => by rw [had]; split <;> rfl
      rcases hl with ⟨rfl, rfl⟩ | rfl <;> rcases hh with ⟨rfl, rfl⟩ | rfl <;>
        simp [Instr.sliceAt, Instr.slice, Instr.sliceBounds, Instr.sliceBound, asIntOf, run_underlying K.und, sizeOf, typeInfo, hi0, hz1, h1, e3, had] <;> split <;> simp_all
    have hpv : partV K.sz (.slice (some ⟨g, 0, none⟩) l.length cap) lo hi = .slice (some ad) (hi - lo) (cap - lo) := by
      rw [had]
      show Value.slice (if cap = lo then some ⟨g, 0, none⟩ else (some (⟨g, 0, none⟩ : Addr)).map (·.add (lo * K.sz))) (hi - lo) (cap - lo) = _
      congr 1
      split <;> rfl
    rw [hpv]
    refine ⟨hrun, some ad, cap - lo, by rw [hlen], by rw [hlen]; omega, by omega, .inr ⟨ad, rfl, fun j u hu => ?_⟩⟩
    have hj : j < (hi - lo) * K.sz := by
      have := (List.getElem?_eq_some_iff.1 hu).1
      rwa [EK.vlen, hlen] at this
    have hlo : cap ≠ lo := by
      rintro rfl
      have : hi - cap = 0 := by omega
      rw [this] at hj
      omega
    rw [if_neg hlo] at had
    rw [had, show ((⟨g, 0, none⟩ : Addr).add (lo * K.sz)).add j = ⟨g, lo * K.sz + j, none⟩ from by unfold Addr.add; repeat (split) <;> simp_all, obj_cell hc]
    rw [EK.vtake (by rw [List.length_drop]; omega), EK.vdrop (by omega), List.getElem?_take, if_pos hj, List.getElem?_drop, ← ht, List.getElem?_take] at hu
    split at hu
    · rw [← Array.getElem?_toList]
      exact hu
    · cases hu
end
end Go.Proofs.Ytljmaicobafgkaa
end
section
/- Chapter 13, net: the reference: its rows; New, node, At, cut. -/
namespace Go.Proofs.Ytljmaicobafgkaa
open Go.RowKit

structure Rw where
  a : Int
  b : Int
  s : ByteArray
def K127 : EK Try.prog Rw where
  cs x := [.int .i64 x.a, .int .i64 x.b, .string x.s]
  sz := 3
  e := 127
  t := 117
  by_ := 32
  len _ := rfl
  one a u h := by
    simp only [List.mem_cons, List.not_mem_nil, or_false] at h
    rcases h with rfl | rfl | rfl <;> rfl
  pos := by decide
  und := Try.underlying117
  inf := ek_inf (z := .agg #[.int .i64 0, .int .i64 0, .string ⟨#[]⟩]) (by kernel_rfl) rfl
  small := by decide
def K221 : EK Try.prog (Int × Int) where
  cs x := [.int .i64 x.1, .int .i64 x.2]
  sz := 2
  e := 221
  t := 118
  by_ := 16
  len _ := rfl
  one a u h := by
    simp only [List.mem_cons, List.not_mem_nil, or_false] at h
    rcases h with rfl | rfl <;> rfl
  pos := by decide
  und := Try.underlying118
  inf := ek_inf (z := .agg #[.int .i64 0, .int .i64 0]) (by kernel_rfl) rfl
  small := by decide
structure RN where
  n : Int
  l : List Rw
  c : List (Int × Int)
/-- The reference's net, as a value. -/
def rv (R : RN) (vl vc : Value) : Array Value := #[.int .i64 R.n, vl, vc]
def RS (w : World) (R : RN) (vl vc : Value) : Prop := K127.row w 0 vl R.l ∧ K221.row w 0 vc R.c
theorem RS.below {w w' : World} {R : RN} {vl vc : Value} (h : RS w R vl vc) (hb : Below w.heap.size w w') : RS w' R vl vc := ⟨EK.row_below h.1 hb, EK.row_below h.2 hb⟩
theorem RS.slices {w : World} {R : RN} {vl vc : Value} (h : RS w R vl vc) : ∃ A1 c1 A2 c2, vl = .slice A1 R.l.length c1 ∧ vc = .slice A2 R.c.length c2 := by
  obtain ⟨A1, c1, e1⟩ := EK.row_slice h.1
  obtain ⟨A2, c2, e2⟩ := EK.row_slice h.2
  exact ⟨A1, c1, A2, c2, e1, e2⟩
theorem info120 : (Try.prog.info? 120).map (·.size) = some 3 := by kernel_rfl
theorem info127s : (Try.prog.info? 127).map (·.size) = some 3 := by kernel_rfl
set_option maxRecDepth 100000 in
theorem rnew_any (n : Int) (w : World) : Calls Try.prog 74 #[.int .i64 n] w fun e w' => e = .returned (.agg (rv ⟨min (max n 1) 64, [], []⟩ (.slice none 0 0) (.slice none 0 0))) ∧ Below w.heap.size w w' := by
  by_cases h0 : n < 1
  · rw [show min (max n 1) 64 = 1 from by omega]
    go_enter Try.func74, Try.ntmps74
    go_wp2
    exact bodyPost_ret (res_c rfl _ _ w.heap.size 120 _ (0, 0) _ rfl (obj_new _ _) Try.underlying120 rfl info120) rfl ⟨rfl, (Below.refl _ _).alloc (Nat.le_refl _) _⟩
  · by_cases h1 : 64 < n
    · rw [show min (max n 1) 64 = 64 from by omega]
      go_enter Try.func74, Try.ntmps74
      go_wp2
      exact bodyPost_ret (res_c rfl _ _ w.heap.size 120 _ (0, 0) _ rfl (obj_new _ _) Try.underlying120 rfl info120) rfl ⟨rfl, (Below.refl _ _).alloc (Nat.le_refl _) _⟩
    · rw [show min (max n 1) 64 = n from by omega]
      go_enter Try.func74, Try.ntmps74
      go_wp2
      exact bodyPost_ret (res_c rfl _ _ w.heap.size 120 _ (0, 0) _ rfl (obj_new _ _) Try.underlying120 rfl info120) rfl ⟨rfl, (Below.refl _ _).alloc (Nat.le_refl _) _⟩
def rnodeP (n i : Int) : Prop := 0 ≤ i ∧ i < n
instance (n i : Int) : Decidable (rnodeP n i) := by unfold rnodeP; infer_instance
set_option maxRecDepth 100000 in
theorem rnode_any (n : Int) (vl vc : Value) (i : Int) (w : World) : Calls Try.prog 139 #[.agg #[.int .i64 n, vl, vc], .int .i64 i] w fun e w' => e = .returned (.bool (decide (rnodeP n i))) ∧ Below w.heap.size w w' := by
  have HB := hide ((Below.refl w.heap.size w).alloc (Nat.le_refl _) (.cells #[.int .i64 n, vl, vc] 120))
  by_cases h0 : 0 ≤ i
  · by_cases h1 : i < n
    · rw [decide_eq_true (p := rnodeP n i) ⟨h0, h1⟩]
      go_enter Try.func139, Try.ntmps139
      go_wp2
      go_ret
      exact ⟨rfl, HB.out⟩
    · rw [decide_eq_false (p := rnodeP n i) (fun h => h1 h.2)]
      go_enter Try.func139, Try.ntmps139
      go_wp2
      go_ret
      exact ⟨rfl, HB.out⟩
  · rw [decide_eq_false (p := rnodeP n i) (fun h => h0 h.1)]
    go_enter Try.func139, Try.ntmps139
    go_wp2
    go_ret
    exact ⟨rfl, HB.out⟩
set_option maxRecDepth 100000 in
theorem rat_any (i : Int) (n : Nat) (w : World) (h0 : 0 < n) (h1 : n ≤ 1073741824) : Calls Try.prog 141 #[.int .i64 i, .int .i64 (n : Int)] w fun e w' => e = .returned (.int .i64 ((atI i n : Nat) : Int)) ∧ w = w' := by
  have hr := tmod_rng i h0
  have HA := hide (show (i.tmod n + n) % n = ((atI i n : Nat) : Int) by rw [Int.add_emod_right]; exact atI_eq i h0)
  go_enter Try.func141, Try.ntmps141
  go_wp2
  go_ret
  exact ⟨by rw [HA.out]; rfl, rfl⟩
theorem eq221 (p q : Int × Int) (w : World) : (Op.equalIn 10000 221 (.agg #[.int .i64 p.1, .int .i64 p.2]) (.agg #[.int .i64 q.1, .int .i64 q.2])).run Try.prog w = .ok (decide (p = q)) w := by
  obtain ⟨i, hi⟩ : ∃ i, Try.prog.info? 3 = some i := by
    have h : (Try.prog.info? 3).isSome = true := by kernel_rfl
    exact Option.isSome_iff_exists.1 h
  have hc : Try.prog.cellsOf 3 = 1 := by kernel_rfl
  rw [show (10000 : Nat) = 9999 + 1 from rfl, run_equalIn_array w 9999 _ _ Try.underlying221 hi, hc]
  obtain ⟨a, b⟩ := p
  obtain ⟨x, y⟩ := q
  have p1 : ∀ (u v : Int) (w : World), (part 3 #[.int .i64 u, .int .i64 v] 0).run Try.prog w = .ok (.int .i64 u) w := fun u v w => by go_simp
  rw [show List.range 2 = [0, 1] from rfl]
  simp only [Op.eqItems, Sem.run_bind, Nat.zero_mul, Nat.one_mul, p1, Result.andThen_ok]
  go_simp
  by_cases h1 : a = x <;> by_cases h2 : b = y <;> simp [h1, h2]
end Go.Proofs.Ytljmaicobafgkaa
end
section
/- Chapter 13, net: the reference: cut, Send, Double. -/
namespace Go.Proofs.Ytljmaicobafgkaa
open Go.RowKit

set_option maxHeartbeats 4000000 in
set_option maxRecDepth 100000 in
theorem rcut_lt (n : Int) (vl vc : Value) (C : List (Int × Int)) (a b : Int) (w : World) (hC : K221.row w 0 vc C) (h : a < b) : Calls Try.prog 140 #[.agg #[.int .i64 n, vl, vc], .int .i64 a, .int .i64 b] w fun e w' => e = .returned (.bool (decide ((a, b) ∈ C))) ∧ Below w.heap.size w w' := by
  obtain ⟨A, c, hv⟩ := EK.row_slice hC
  subst hv
  have hb := (Below.refl w.heap.size w).alloc (Nat.le_refl _) (.cells #[.int .i64 n, vl, .slice A C.length c] 120)
  have HC := hide (EK.row_below hC hb)
  have HB := hide hb
  have hl : C.length ≤ 9223372036854775807 := by
    rcases hC.2 with ⟨_, h0⟩ | ⟨_, _, _, _, _, _, h1, h2, _⟩
    · omega
    · simp only [maxLen] at h2; omega
  obtain ⟨W, hW⟩ : ∃ W, W = w.alloc (.cells #[.int .i64 n, vl, .slice A C.length c] 120) := ⟨_, rfl⟩
  rw [← hW] at HC HB
  have HBX := hide (show W.heap[w.heap.size]? = some (.cells #[.int .i64 n, vl, .slice A C.length c] 120 (0, 0)) from hW ▸ obj_new _ _)
  have z2 := obj_cell HBX.out 2
  simp only [List.getElem?_toArray, List.getElem?_cons_zero, List.getElem?_cons_succ] at z2
  have HW := hide hW
  clear hC hb hW
  go_enter Try.func140, Try.ntmps140
  rw [HW.out] at z2
  go_wp2_with fail
  rw [← HW.out]
  rw [← HW.out] at z2
  go_loop [7] (fun i => ∃ k : Nat, i = .int .i64 k ∧ k ≤ C.length ∧ ∀ j, j < k → C[j]? ≠ some (a, b)) (fun i => C.length - (intOf i).toNat)
  case atStart => exact ⟨0, rfl, Nat.zero_le _, fun j hj => absurd hj (Nat.not_lt_zero _)⟩
  case round =>
    obtain ⟨k, rfl, hk, hq⟩ := hrel
    have HQ := hide hq
    clear hq
    rcases Nat.lt_or_ge k C.length with hkl | hkl
    · obtain ⟨r, cap, hv, hc1, hc2, _, _, hcell⟩ := EK.row_cells HC.out hkl
      cases hv
      have e0 : W.cell? ⟨r, k * 2, none⟩ = some (.int .i64 C[k].1) := hcell 0 (by decide)
      have e1 : W.cell? ⟨r, k * 2 + 1, none⟩ = some (.int .i64 C[k].2) := hcell 1 (by decide)
      have hcm : c ≤ 9223372036854775807 := by simp only [maxLen] at hc2; omega
      have hE := fun wx => eq221 C[k] (a, b) wx
      have HK := hide (List.getElem?_eq_getElem hkl)
      clear hcell
      generalize C[k] = p at e0 e1 hE HK
      by_cases hp : p = (a, b)
      · rw [decide_eq_true hp] at hE
        have HM := hide (show decide ((a, b) ∈ C) = true from decide_eq_true (List.mem_of_getElem? (hp ▸ HK.out)))
        clear hp
        go_wp2
        go_ret
        exact ⟨(show Ending.returned (.bool true) = _ by rw [HM.out]), HB.out⟩
      · rw [decide_eq_false hp] at hE
        have HN : Hid (∀ j, j < k + 1 → C[j]? ≠ some (a, b)) := hide (fun j hj => by
          rcases Nat.lt_or_ge j k with h1 | h1
          · exact HQ.out j h1
          · obtain rfl : j = k := by omega
            rw [HK.out]
            exact fun e => hp (Option.some.inj e))
        clear hp
        go_wp2
        go_round
        case rel => exact ⟨k + 1, by go_num, by omega, HN.out⟩
        case measure => simp [intOf]; omega
    · obtain rfl : k = C.length := by omega
      have HM := hide (show decide ((a, b) ∈ C) = false from decide_eq_false (fun hm => by
        obtain ⟨j, hj, he⟩ := List.getElem_of_mem hm
        exact HQ.out j hj (by rw [List.getElem?_eq_getElem hj, he])))
      go_wp2
      go_ret
      exact ⟨(show Ending.returned (.bool false) = _ by rw [HM.out]), HB.out⟩
set_option maxHeartbeats 4000000 in
set_option maxRecDepth 100000 in
theorem rcut_eq (n : Int) (vl vc : Value) (C : List (Int × Int)) (a b : Int) (w : World) (hC : K221.row w 0 vc C) (h : a = b) : Calls Try.prog 140 #[.agg #[.int .i64 n, vl, vc], .int .i64 a, .int .i64 b] w fun e w' => e = .returned (.bool (decide ((a, a) ∈ C))) ∧ Below w.heap.size w w' := by
  obtain ⟨A, c, hv⟩ := EK.row_slice hC
  subst hv
  subst h
  have hb := (Below.refl w.heap.size w).alloc (Nat.le_refl _) (.cells #[.int .i64 n, vl, .slice A C.length c] 120)
  have HC := hide (EK.row_below hC hb)
  have HB := hide hb
  have hl : C.length ≤ 9223372036854775807 := by
    rcases hC.2 with ⟨_, h0⟩ | ⟨_, _, _, _, _, _, h1, h2, _⟩
    · omega
    · simp only [maxLen] at h2; omega
  obtain ⟨W, hW⟩ : ∃ W, W = w.alloc (.cells #[.int .i64 n, vl, .slice A C.length c] 120) := ⟨_, rfl⟩
  rw [← hW] at HC HB
  have HBX := hide (show W.heap[w.heap.size]? = some (.cells #[.int .i64 n, vl, .slice A C.length c] 120 (0, 0)) from hW ▸ obj_new _ _)
  have z2 := obj_cell HBX.out 2
  simp only [List.getElem?_toArray, List.getElem?_cons_zero, List.getElem?_cons_succ] at z2
  have HW := hide hW
  clear hC hb hW
  go_enter Try.func140, Try.ntmps140
  rw [HW.out] at z2
  go_wp2_with fail
  rw [← HW.out]
  rw [← HW.out] at z2
  go_loop [7] (fun i => ∃ k : Nat, i = .int .i64 k ∧ k ≤ C.length ∧ ∀ j, j < k → C[j]? ≠ some (a, a)) (fun i => C.length - (intOf i).toNat)
  case atStart => exact ⟨0, rfl, Nat.zero_le _, fun j hj => absurd hj (Nat.not_lt_zero _)⟩
  case round =>
    obtain ⟨k, rfl, hk, hq⟩ := hrel
    have HQ := hide hq
    clear hq
    rcases Nat.lt_or_ge k C.length with hkl | hkl
    · obtain ⟨r, cap, hv, hc1, hc2, _, _, hcell⟩ := EK.row_cells HC.out hkl
      cases hv
      have e0 : W.cell? ⟨r, k * 2, none⟩ = some (.int .i64 C[k].1) := hcell 0 (by decide)
      have e1 : W.cell? ⟨r, k * 2 + 1, none⟩ = some (.int .i64 C[k].2) := hcell 1 (by decide)
      have hcm : c ≤ 9223372036854775807 := by simp only [maxLen] at hc2; omega
      have hE := fun wx => eq221 C[k] (a, a) wx
      have HK := hide (List.getElem?_eq_getElem hkl)
      clear hcell
      generalize C[k] = p at e0 e1 hE HK
      by_cases hp : p = (a, a)
      · rw [decide_eq_true hp] at hE
        have HM := hide (show decide ((a, a) ∈ C) = true from decide_eq_true (List.mem_of_getElem? (hp ▸ HK.out)))
        clear hp
        go_wp2
        go_ret
        exact ⟨(show Ending.returned (.bool true) = _ by rw [HM.out]), HB.out⟩
      · rw [decide_eq_false hp] at hE
        have HN : Hid (∀ j, j < k + 1 → C[j]? ≠ some (a, a)) := hide (fun j hj => by
          rcases Nat.lt_or_ge j k with h1 | h1
          · exact HQ.out j h1
          · obtain rfl : j = k := by omega
            rw [HK.out]
            exact fun e => hp (Option.some.inj e))
        clear hp
        go_wp2
        go_round
        case rel => exact ⟨k + 1, by go_num, by omega, HN.out⟩
        case measure => simp [intOf]; omega
    · obtain rfl : k = C.length := by omega
      have HM := hide (show decide ((a, a) ∈ C) = false from decide_eq_false (fun hm => by
        obtain ⟨j, hj, he⟩ := List.getElem_of_mem hm
        exact HQ.out j hj (by rw [List.getElem?_eq_getElem hj, he])))
      go_wp2
      go_ret
      exact ⟨(show Ending.returned (.bool false) = _ by rw [HM.out]), HB.out⟩
set_option maxHeartbeats 4000000 in
set_option maxRecDepth 100000 in
theorem rcut_gt (n : Int) (vl vc : Value) (C : List (Int × Int)) (a b : Int) (w : World) (hC : K221.row w 0 vc C) (h : b < a) : Calls Try.prog 140 #[.agg #[.int .i64 n, vl, vc], .int .i64 a, .int .i64 b] w fun e w' => e = .returned (.bool (decide ((b, a) ∈ C))) ∧ Below w.heap.size w w' := by
  obtain ⟨A, c, hv⟩ := EK.row_slice hC
  subst hv
  have hb := (Below.refl w.heap.size w).alloc (Nat.le_refl _) (.cells #[.int .i64 n, vl, .slice A C.length c] 120)
  have HC := hide (EK.row_below hC hb)
  have HB := hide hb
  have hl : C.length ≤ 9223372036854775807 := by
    rcases hC.2 with ⟨_, h0⟩ | ⟨_, _, _, _, _, _, h1, h2, _⟩
    · omega
    · simp only [maxLen] at h2; omega
  obtain ⟨W, hW⟩ : ∃ W, W = w.alloc (.cells #[.int .i64 n, vl, .slice A C.length c] 120) := ⟨_, rfl⟩
  rw [← hW] at HC HB
  have HBX := hide (show W.heap[w.heap.size]? = some (.cells #[.int .i64 n, vl, .slice A C.length c] 120 (0, 0)) from hW ▸ obj_new _ _)
  have z2 := obj_cell HBX.out 2
  simp only [List.getElem?_toArray, List.getElem?_cons_zero, List.getElem?_cons_succ] at z2
  have HW := hide hW
  clear hC hb hW
  go_enter Try.func140, Try.ntmps140
  rw [HW.out] at z2
  go_wp2_with fail
  rw [← HW.out]
  rw [← HW.out] at z2
  go_loop [7] (fun i => ∃ k : Nat, i = .int .i64 k ∧ k ≤ C.length ∧ ∀ j, j < k → C[j]? ≠ some (b, a)) (fun i => C.length - (intOf i).toNat)
  case atStart => exact ⟨0, rfl, Nat.zero_le _, fun j hj => absurd hj (Nat.not_lt_zero _)⟩
  case round =>
    obtain ⟨k, rfl, hk, hq⟩ := hrel
    have HQ := hide hq
    clear hq
    rcases Nat.lt_or_ge k C.length with hkl | hkl
    · obtain ⟨r, cap, hv, hc1, hc2, _, _, hcell⟩ := EK.row_cells HC.out hkl
      cases hv
      have e0 : W.cell? ⟨r, k * 2, none⟩ = some (.int .i64 C[k].1) := hcell 0 (by decide)
      have e1 : W.cell? ⟨r, k * 2 + 1, none⟩ = some (.int .i64 C[k].2) := hcell 1 (by decide)
      have hcm : c ≤ 9223372036854775807 := by simp only [maxLen] at hc2; omega
      have hE := fun wx => eq221 C[k] (b, a) wx
      have HK := hide (List.getElem?_eq_getElem hkl)
      clear hcell
      generalize C[k] = p at e0 e1 hE HK
      by_cases hp : p = (b, a)
      · rw [decide_eq_true hp] at hE
        have HM := hide (show decide ((b, a) ∈ C) = true from decide_eq_true (List.mem_of_getElem? (hp ▸ HK.out)))
        clear hp
        go_wp2
        go_ret
        exact ⟨(show Ending.returned (.bool true) = _ by rw [HM.out]), HB.out⟩
      · rw [decide_eq_false hp] at hE
        have HN : Hid (∀ j, j < k + 1 → C[j]? ≠ some (b, a)) := hide (fun j hj => by
          rcases Nat.lt_or_ge j k with h1 | h1
          · exact HQ.out j h1
          · obtain rfl : j = k := by omega
            rw [HK.out]
            exact fun e => hp (Option.some.inj e))
        clear hp
        go_wp2
        go_round
        case rel => exact ⟨k + 1, by go_num, by omega, HN.out⟩
        case measure => simp [intOf]; omega
    · obtain rfl : k = C.length := by omega
      have HM := hide (show decide ((b, a) ∈ C) = false from decide_eq_false (fun hm => by
        obtain ⟨j, hj, he⟩ := List.getElem_of_mem hm
        exact HQ.out j hj (by rw [List.getElem?_eq_getElem hj, he])))
      go_wp2
      go_ret
      exact ⟨(show Ending.returned (.bool false) = _ by rw [HM.out]), HB.out⟩
theorem rcut_any (n : Int) (vl vc : Value) (C : List (Int × Int)) (a b : Int) (w : World) (hC : K221.row w 0 vc C) : Calls Try.prog 140 #[.agg #[.int .i64 n, vl, vc], .int .i64 a, .int .i64 b] w fun e w' => e = .returned (.bool (decide (lnk a b ∈ C))) ∧ Below w.heap.size w w' := by
  rcases Int.lt_trichotomy a b with h | h | h
  · rw [show lnk a b = (a, b) from by unfold lnk; rw [Int.min_eq_left (by omega), Int.max_eq_right (by omega)]]
    exact rcut_lt n vl vc C a b w hC h
  · rw [show lnk a b = (a, a) from by unfold lnk; rw [← h, Int.min_self, Int.max_self]]
    exact rcut_eq n vl vc C a b w hC h
  · rw [show lnk a b = (b, a) from by unfold lnk; rw [Int.min_eq_right (by omega), Int.max_eq_left (by omega)]]
    exact rcut_gt n vl vc C a b w hC h
def CpS (w0 : World) (bn : Nat) (nn : Int) (vl vc : Value) (l : List Rw) (q : Rw) (dc ds da de : Bool) (xc xs xa : Value) (w : World) : Prop :=
  Fr (fun j => j = bn) w0 w ∧ w.heap[bn]? = some (.cells #[.int .i64 nn, if de = true then xa else vl, vc] 120 (0, 0)) ∧ (dc = true → da = false → K127.row w w0.heap.size xc l) ∧
    (ds = true → da = false → ∃ b, xs = .slice (some ⟨b, 0, none⟩) 1 1 ∧ w.heap[b]? = some (.cells (K127.cs q).toArray 127 (0, 0))) ∧ (da = true → K127.row w w0.heap.size xa (l ++ [q])) ∧ (de = true → da = true)
section
variable {w0 w : World} {bn : Nat} {nn : Int} {vl vc : Value} {l : List Rw} {q : Rw} {dc ds da de : Bool} {xc xs xa : Value}
theorem k127_ne {w : World} {B : Nat} {v : Value} {l : List Rw} (h : K127.row w B v l) {k : Nat} {cs : Array Value} {t : TypeId} {f : Nat × Nat} (hk : w.heap[k]? = some (.cells cs t f)) (ht : t ≠ 127) : v.ownBlock ≠ some k := by
  intro e
  obtain ⟨_, _, cs', h2⟩ := EK.row_typed h e
  rw [hk] at h2
  simp only [Option.some.injEq, Obj.cells.injEq] at h2
  exact ht h2.2.1
theorem CpS.orow (h : CpS w0 bn nn vl vc l q dc ds da de xc xs xa w) (hr : K127.row w0 0 vl l) (hb : vl.ownBlock ≠ some bn) : K127.row w 0 vl l :=
  EK.row_fr hr h.1 (fun _ hk e => hb (e ▸ hk))
theorem CpS.copy (h : CpS w0 bn nn vl vc l q dc ds false de xc xs xa w) (hr : K127.row w0 0 vl l) (hb : vl.ownBlock ≠ some bn) (hl : l.length ≤ 1048576) (ty : TypeId) :
    ∃ v2 w2, (Builtin.append_ #[117, 117] ty #[.slice none 0 0, vl]).run Try.prog w = .ok v2 w2 ∧ CpS w0 bn nn vl vc l q true ds false de v2 xs xa w2 := by
  obtain ⟨v2, w2, hrun, hrow, hf, hv⟩ := EK.app (K := K127) (EK.row_nil w w0.heap.size) (EK.row_rd (h.orow hr hb)) (by simp; omega) h.1.size ty
  refine ⟨v2, w2, hrun, h.1.trans hf (fun i _ e => by cases e), hf.obj h.2.1 (fun e => by cases e), fun _ _ => ?_, fun h1 h2 => ?_, (fun e => by cases e), h.2.2.2.2.2⟩
  · rwa [List.nil_append] at hrow
  · obtain ⟨b, e1, e2⟩ := h.2.2.2.1 h1 h2
    exact ⟨b, e1, hf.obj e2 (fun e => by cases e)⟩
theorem CpS.build (h : CpS w0 bn nn vl vc l q dc ds false de xc xs xa w) : CpS w0 bn nn vl vc l q dc true false de xc (.slice (some ⟨w.heap.size, 0, none⟩) 1 1) xa (w.alloc (.cells #[.int .i64 q.a, .int .i64 q.b, .string q.s] 127)) := by
  have hbl := (Below.refl w.heap.size w).alloc (Nat.le_refl _) (.cells #[.int .i64 q.a, .int .i64 q.b, .string q.s] 127)
  exact ⟨h.1.alloc _, obj_alloc h.2.1 _, fun h1 h2 => EK.row_below (h.2.2.1 h1 h2) hbl, fun _ _ => ⟨_, rfl, obj_new _ _⟩, (fun e => by cases e), h.2.2.2.2.2⟩
theorem CpS.app (h : CpS w0 bn nn vl vc l q true true false de xc xs xa w) (hl : l.length ≤ 1048576) (ty : TypeId) :
    ∃ b v3 w2, xs = .slice (some ⟨b, 0, none⟩) 1 1 ∧ (Builtin.append_ #[117, 117] ty #[xc, .slice (some ⟨b, 0, none⟩) 1 1]).run Try.prog w = .ok v3 w2 ∧ CpS w0 bn nn vl vc l q true true true false xc xs v3 w2 := by
  obtain ⟨b, e1, e2⟩ := h.2.2.2.1 rfl rfl
  have hc := h.2.2.1 rfl rfl
  have hde : de = false := by
    rcases de with _ | _
    · rfl
    · exact absurd (h.2.2.2.2.2 rfl) (by decide)
  subst hde
  obtain ⟨v3, w2, hrun, hrow, hf, hv⟩ := EK.app hc (EK.rd_one q e2) (by simp; omega) h.1.size ty
  refine ⟨b, v3, w2, e1, hrun, h.1.trans hf (fun i hi e => ?_), hf.obj h.2.1 (k127_ne hc h.2.1 (by decide)), (fun _ e => by cases e), (fun _ e => by cases e), fun _ => hrow, (fun e => by cases e)⟩
  have := (EK.row_typed hc e).1
  omega
theorem CpS.store (h : CpS w0 bn nn vl vc l q dc ds true false xc xs xa w) : CpS w0 bn nn vl vc l q dc ds true true xc xs xa (w.setCell ⟨bn, 1, none⟩ xa) := by
  have F := (Fr.refl (fun j => j = bn) w).setCell (p := ⟨bn, 1, none⟩) (fun _ => rfl) xa
  refine ⟨h.1.trans F (fun i _ e => e), obj_set h.2.1 1 _, (fun _ e => by cases e), (fun _ e => by cases e), fun _ => EK.row_fr (h.2.2.2.2.1 rfl) F (fun k hk e => k127_ne (h.2.2.2.2.1 rfl) h.2.1 (by decide) (e ▸ hk)), fun _ => rfl⟩
end
def nx1 (R : RN) (q : Rw) : RN := ⟨R.n, R.l ++ [q], R.c⟩
def rsA (bn : Nat) (q : Rw) (u x : Nat → Value) : Act := ⟨#[u 0, u 1, .pointer (some ⟨bn, 0, none⟩), .pointer (some ⟨(bn + 1), 0, none⟩), .pointer (some ⟨(bn + 1 + 1), 0, none⟩), .bool false, .string q.s, .int .i64 0, u 8, u 9, u 10, u 11, u 12, u 13, u 14, u 15, u 16, u 17, u 18, u 19, u 20, u 21, u 22, u 23, u 24, u 25, u 26, u 27, u 28, u 29, u 30, u 31, u 32, u 33, u 34, u 35, x 0, x 1, x 2, x 3, x 4, x 5, x 6, x 7, x 8, x 9, x 10, x 11, u 48], []⟩
def rsV (bn : Nat) (v0 : Value) (q : Rw) (qx : Nat) (qw : Value) : Prop :=
  match qx with
  | 0 => qw = .pointer (some ⟨bn, 1, none⟩)
  | 1 => qw = v0
  | 3 => qw = .pointer (some ⟨(bn + 1), 1, none⟩)
  | 4 => qw = .int .i64 q.a
  | 5 => qw = .pointer (some ⟨(bn + 1), 2, none⟩)
  | 6 => qw = .int .i64 q.b
  | 7 => qw = .string q.s
  | 8 => qw = .agg #[.int .i64 q.a, .int .i64 q.b, .string q.s]
  | 11 => qw = .pointer (some ⟨bn, 1, none⟩)
  | _ => True
set_option maxHeartbeats 4000000 in
set_option maxRecDepth 100000 in
theorem rsend_no {w : World} {R : RN} {vl vc : Value} (hR : RS w R vl vc) (mk mf mt mi : Int) (mb o : ByteArray) (ec : Int) (hE : REncTo mk mf mt mi mb o ec) (h : ¬ (ec = 0 ∧ rnodeP R.n mf ∧ rnodeP R.n mt ∧ R.l.length < 1024)) :
    Calls Try.prog 75 #[.agg #[.int .i64 R.n, vl, vc], .agg #[.int .i64 mk, .int .i64 mf, .int .i64 mt, .int .i64 mi, .string mb]] w fun e w' => e = .returned (.tuple #[.agg (rv R vl vc), .bool false]) ∧ Below w.heap.size w w' := by
  obtain ⟨A1, c1, A2, c2, e1, e2⟩ := hR.slices
  subst e1 e2
  have hb := (((Below.refl w.heap.size w).alloc (Nat.le_refl _) (.cells #[.int .i64 R.n, .slice A1 R.l.length c1, .slice A2 R.c.length c2] 120)).alloc (by simp) (.cells #[.int .i64 mk, .int .i64 mf, .int .i64 mt, .int .i64 mi, .string mb] 63)).alloc (by simp only [World.size_alloc]; omega) (.cells #[.int .i64 0, .slice none 0 0, .slice none 0 0] 120)
  have HB0 := hide hb
  have HN0 := hide (obj_alloc (obj_alloc (obj_new w (.cells #[.int .i64 R.n, .slice A1 R.l.length c1, .slice A2 R.c.length c2] 120)) (.cells #[.int .i64 mk, .int .i64 mf, .int .i64 mt, .int .i64 mi, .string mb] 63)) (.cells #[.int .i64 0, .slice none 0 0, .slice none 0 0] 120))
  have HO0 := hide (obj_new ((w.alloc (.cells #[.int .i64 R.n, .slice A1 R.l.length c1, .slice A2 R.c.length c2] 120)).alloc (.cells #[.int .i64 mk, .int .i64 mf, .int .i64 mt, .int .i64 mi, .string mb] 63)) (.cells #[.int .i64 0, .slice none 0 0, .slice none 0 0] 120))
  have HM0 := hide (obj_alloc (obj_new' w (.cells #[.int .i64 R.n, .slice A1 R.l.length c1, .slice A2 R.c.length c2] 120) (.cells #[.int .i64 mk, .int .i64 mf, .int .i64 mt, .int .i64 mi, .string mb] 63)) (.cells #[.int .i64 0, .slice none 0 0, .slice none 0 0] 120))
  simp only [World.size_alloc] at HO0
  have HE := hide hE
  have HH := hide h
  clear hR hb h hE
  go_enter Try.func75, Try.ntmps75
  go_wp2_with fail
  refine (HE.out _).mono ?_
  rintro e w1 ⟨rfl, hb1⟩
  have HB1 := hide (HB0.out.trans (hb1.mono HB0.out.size))
  have HN1 := hide (obj_below HN0.out hb1)
  have HM1 := hide (obj_below HM0.out hb1)
  have HO1 := hide (obj_below HO0.out hb1)
  clear hb1 HB0 HN0 HM0 HO0
  have n0 := obj_cell HN1.out 0
  have n1 := obj_cell HN1.out 1
  have n2 := obj_cell HN1.out 2
  simp only [List.getElem?_toArray, List.getElem?_cons_zero, List.getElem?_cons_succ] at n0 n1 n2
  have m0 := obj_cell HM1.out 0
  have m1 := obj_cell HM1.out 1
  have m2 := obj_cell HM1.out 2
  have m3 := obj_cell HM1.out 3
  have m4 := obj_cell HM1.out 4
  simp only [List.getElem?_toArray, List.getElem?_cons_zero, List.getElem?_cons_succ] at m0 m1 m2 m3 m4
  by_cases he : ec = 0
  · have he1 : (ec != 0) = false := by simp [he]
    by_cases hf : rnodeP R.n mf
    · have HA := hide (rnode_any R.n (.slice A1 R.l.length c1) (.slice A2 R.c.length c2) mf w1)
      rw [decide_eq_true hf] at HA
      by_cases ht : rnodeP R.n mt
      · have hl : (1024 : Int) ≤ R.l.length := by
          have : ¬ R.l.length < 1024 := fun hl => HH.out ⟨he, hf, ht, hl⟩
          omega
        clear he hf
        go_wp2_with fail
        refine HA.out.mono ?_
        rintro e w2 ⟨rfl, hb2⟩
        have HB2 := hide (HB1.out.trans (hb2.mono HB1.out.size))
        have HN2 := hide (obj_below HN1.out hb2)
        have HM2 := hide (obj_below HM1.out hb2)
        have HO2 := hide (obj_below HO1.out hb2)
        have HT := hide (rnode_any R.n (.slice A1 R.l.length c1) (.slice A2 R.c.length c2) mt w2)
        rw [decide_eq_true ht] at HT
        clear ht hb2 HB1 HN1 HM1 HO1 HA n0 n1 n2 m0 m1 m2 m3 m4
        have n0 := obj_cell HN2.out 0
        have n1 := obj_cell HN2.out 1
        have n2 := obj_cell HN2.out 2
        simp only [List.getElem?_toArray, List.getElem?_cons_zero, List.getElem?_cons_succ] at n0 n1 n2
        have m0 := obj_cell HM2.out 0
        have m1 := obj_cell HM2.out 1
        have m2 := obj_cell HM2.out 2
        have m3 := obj_cell HM2.out 3
        have m4 := obj_cell HM2.out 4
        simp only [List.getElem?_toArray, List.getElem?_cons_zero, List.getElem?_cons_succ] at m0 m1 m2 m3 m4
        go_wp2_with fail
        refine HT.out.mono ?_
        rintro e w3 ⟨rfl, hb3⟩
        have HB3 := hide (HB2.out.trans (hb3.mono HB2.out.size))
        have HN3 := hide (obj_below HN2.out hb3)
        have HO3 := hide (obj_below HO2.out hb3)
        clear hb3 HB2 HN2 HM2 HO2 HT n0 n1 n2 m0 m1 m2 m3 m4
        have n0 := obj_cell HN3.out 0
        have n1 := obj_cell HN3.out 1
        have n2 := obj_cell HN3.out 2
        simp only [List.getElem?_toArray, List.getElem?_cons_zero, List.getElem?_cons_succ] at n0 n1 n2
        have hst := store_whole (P := Try.prog) (ty := 120) HO3.out (cells := #[.int .i64 R.n, .slice A1 R.l.length c1, .slice A2 R.c.length c2]) info120 rfl (by simp [Value.oneCell'])
        have HST := hide hst
        clear hst
        go_wp2_with (refine wpList_storev' rfl 120 (.tmp 4) (.tmp 35) rfl rfl rfl HST.out ?_)
        refine bodyPost_ret (res_ct rfl _ _ (w.heap.size + 1 + 1) 120 _ (0, 0) _ rfl (setRow_at' HO3.out) Try.underlying120 rfl info120) rfl ?_
        exact ⟨rfl, HB3.out.trans ((setRow_fr' _ _ _).below _ HB3.out.size (fun j hj e => by omega))⟩
      · clear he hf
        go_wp2_with fail
        refine HA.out.mono ?_
        rintro e w2 ⟨rfl, hb2⟩
        have HB2 := hide (HB1.out.trans (hb2.mono HB1.out.size))
        have HN2 := hide (obj_below HN1.out hb2)
        have HM2 := hide (obj_below HM1.out hb2)
        have HO2 := hide (obj_below HO1.out hb2)
        have HT := hide (rnode_any R.n (.slice A1 R.l.length c1) (.slice A2 R.c.length c2) mt w2)
        rw [decide_eq_false ht] at HT
        clear ht hb2 HB1 HN1 HM1 HO1 HA n0 n1 n2 m0 m1 m2 m3 m4
        have n0 := obj_cell HN2.out 0
        have n1 := obj_cell HN2.out 1
        have n2 := obj_cell HN2.out 2
        simp only [List.getElem?_toArray, List.getElem?_cons_zero, List.getElem?_cons_succ] at n0 n1 n2
        have m0 := obj_cell HM2.out 0
        have m1 := obj_cell HM2.out 1
        have m2 := obj_cell HM2.out 2
        have m3 := obj_cell HM2.out 3
        have m4 := obj_cell HM2.out 4
        simp only [List.getElem?_toArray, List.getElem?_cons_zero, List.getElem?_cons_succ] at m0 m1 m2 m3 m4
        go_wp2_with fail
        refine HT.out.mono ?_
        rintro e w3 ⟨rfl, hb3⟩
        have HB3 := hide (HB2.out.trans (hb3.mono HB2.out.size))
        have HN3 := hide (obj_below HN2.out hb3)
        have HO3 := hide (obj_below HO2.out hb3)
        clear hb3 HB2 HN2 HM2 HO2 HT n0 n1 n2 m0 m1 m2 m3 m4
        have n0 := obj_cell HN3.out 0
        have n1 := obj_cell HN3.out 1
        have n2 := obj_cell HN3.out 2
        simp only [List.getElem?_toArray, List.getElem?_cons_zero, List.getElem?_cons_succ] at n0 n1 n2
        have hst := store_whole (P := Try.prog) (ty := 120) HO3.out (cells := #[.int .i64 R.n, .slice A1 R.l.length c1, .slice A2 R.c.length c2]) info120 rfl (by simp [Value.oneCell'])
        have HST := hide hst
        clear hst
        go_wp2_with (refine wpList_storev' rfl 120 (.tmp 4) (.tmp 35) rfl rfl rfl HST.out ?_)
        refine bodyPost_ret (res_ct rfl _ _ (w.heap.size + 1 + 1) 120 _ (0, 0) _ rfl (setRow_at' HO3.out) Try.underlying120 rfl info120) rfl ?_
        exact ⟨rfl, HB3.out.trans ((setRow_fr' _ _ _).below _ HB3.out.size (fun j hj e => by omega))⟩
    · have HA := hide (rnode_any R.n (.slice A1 R.l.length c1) (.slice A2 R.c.length c2) mf w1)
      rw [decide_eq_false hf] at HA
      clear he hf
      go_wp2_with fail
      refine HA.out.mono ?_
      rintro e w3 ⟨rfl, hb3⟩
      have HB3 := hide (HB1.out.trans (hb3.mono HB1.out.size))
      have HN3 := hide (obj_below HN1.out hb3)
      have HO3 := hide (obj_below HO1.out hb3)
      clear hb3 HB1 HN1 HM1 HO1 HA n0 n1 n2 m0 m1 m2 m3 m4
      have n0 := obj_cell HN3.out 0
      have n1 := obj_cell HN3.out 1
      have n2 := obj_cell HN3.out 2
      simp only [List.getElem?_toArray, List.getElem?_cons_zero, List.getElem?_cons_succ] at n0 n1 n2
      have hst := store_whole (P := Try.prog) (ty := 120) HO3.out (cells := #[.int .i64 R.n, .slice A1 R.l.length c1, .slice A2 R.c.length c2]) info120 rfl (by simp [Value.oneCell'])
      have HST := hide hst
      clear hst
      go_wp2_with (refine wpList_storev' rfl 120 (.tmp 4) (.tmp 35) rfl rfl rfl HST.out ?_)
      refine bodyPost_ret (res_ct rfl _ _ (w.heap.size + 1 + 1) 120 _ (0, 0) _ rfl (setRow_at' HO3.out) Try.underlying120 rfl info120) rfl ?_
      exact ⟨rfl, HB3.out.trans ((setRow_fr' _ _ _).below _ HB3.out.size (fun j hj e => by omega))⟩
  · have he1 : (ec != 0) = true := by simp [he]
    have HB3 := HB1
    have HO3 := HO1
    clear he
    have hst := store_whole (P := Try.prog) (ty := 120) HO3.out (cells := #[.int .i64 R.n, .slice A1 R.l.length c1, .slice A2 R.c.length c2]) info120 rfl (by simp [Value.oneCell'])
    have HST := hide hst
    clear hst
    go_wp2_with (refine wpList_storev' rfl 120 (.tmp 4) (.tmp 35) rfl rfl rfl HST.out ?_)
    refine bodyPost_ret (res_ct rfl _ _ (w.heap.size + 1 + 1) 120 _ (0, 0) _ rfl (setRow_at' HO3.out) Try.underlying120 rfl info120) rfl ?_
    exact ⟨rfl, HB3.out.trans ((setRow_fr' _ _ _).below _ HB3.out.size (fun j hj e => by omega))⟩
set_option maxHeartbeats 4000000 in
set_option maxRecDepth 100000 in
theorem rsend_ok {w : World} {R : RN} {vl vc : Value} (hR : RS w R vl vc) (mk mi : Int) (mb : ByteArray) (q : Rw) (hE : REncTo mk q.a q.b mi mb q.s 0) (hf : rnodeP R.n q.a) (ht : rnodeP R.n q.b) (hl : R.l.length < 1024) :
    Calls Try.prog 75 #[.agg #[.int .i64 R.n, vl, vc], .agg #[.int .i64 mk, .int .i64 q.a, .int .i64 q.b, .int .i64 mi, .string mb]] w fun e w' => ∃ vl', e = .returned (.tuple #[.agg (rv (nx1 R q) vl' vc), .bool true]) ∧ RS w' (nx1 R q) vl' vc ∧ Below w.heap.size w w' := by
  obtain ⟨A1, c1, A2, c2, e1, e2⟩ := hR.slices
  subst e1
  have hb := (((Below.refl w.heap.size w).alloc (Nat.le_refl _) (.cells #[.int .i64 R.n, (Value.slice A1 R.l.length c1), vc] 120)).alloc (by simp) (.cells #[.int .i64 mk, .int .i64 q.a, .int .i64 q.b, .int .i64 mi, .string mb] 63)).alloc (by simp only [World.size_alloc]; omega) (.cells #[.int .i64 0, .slice none 0 0, .slice none 0 0] 120)
  have HB0 := hide hb
  have HN0 := hide (obj_alloc (obj_alloc (obj_new w (.cells #[.int .i64 R.n, (Value.slice A1 R.l.length c1), vc] 120)) (.cells #[.int .i64 mk, .int .i64 q.a, .int .i64 q.b, .int .i64 mi, .string mb] 63)) (.cells #[.int .i64 0, .slice none 0 0, .slice none 0 0] 120))
  have HO0 := hide (obj_new ((w.alloc (.cells #[.int .i64 R.n, (Value.slice A1 R.l.length c1), vc] 120)).alloc (.cells #[.int .i64 mk, .int .i64 q.a, .int .i64 q.b, .int .i64 mi, .string mb] 63)) (.cells #[.int .i64 0, .slice none 0 0, .slice none 0 0] 120))
  have HM0 := hide (obj_alloc (obj_new' w (.cells #[.int .i64 R.n, (Value.slice A1 R.l.length c1), vc] 120) (.cells #[.int .i64 mk, .int .i64 q.a, .int .i64 q.b, .int .i64 mi, .string mb] 63)) (.cells #[.int .i64 0, .slice none 0 0, .slice none 0 0] 120))
  simp only [World.size_alloc] at HO0
  have HE := hide hE
  have HR := hide hR
  have HLN : Hid (R.l.length ≤ 1048576) := hide (by omega)
  have HVB : Hid ((Value.slice A1 R.l.length c1).ownBlock ≠ some w.heap.size) := hide (fun e => absurd (EK.row_typed hR.1 e).2.1 (Nat.lt_irrefl _))
  have HVCB : Hid (∀ k, vc.ownBlock = some k → k < w.heap.size) := hide (fun k e => (EK.row_typed hR.2 e).2.1)
  have HFA := hide (fun wx => rnode_any R.n (Value.slice A1 R.l.length c1) vc q.a wx)
  have HTA := hide (fun wx => rnode_any R.n (Value.slice A1 R.l.length c1) vc q.b wx)
  rw [decide_eq_true hf] at HFA
  rw [decide_eq_true ht] at HTA
  have hl' : ¬ (1024 : Int) ≤ R.l.length := by omega
  clear hR hb hE hf ht hl e2
  go_enter Try.func75, Try.ntmps75
  go_wp2_with fail
  refine (HE.out _).mono ?_
  rintro e w1 ⟨rfl, hb1⟩
  have HB1 := hide (HB0.out.trans (hb1.mono HB0.out.size))
  have HN1 := hide (obj_below HN0.out hb1)
  have HM1 := hide (obj_below HM0.out hb1)
  have HO1 := hide (obj_below HO0.out hb1)
  clear hb1 HB0 HN0 HM0 HO0
  have n0 := obj_cell HN1.out 0
  have n1 := obj_cell HN1.out 1
  have n2 := obj_cell HN1.out 2
  simp only [List.getElem?_toArray, List.getElem?_cons_zero, List.getElem?_cons_succ] at n0 n1 n2
  have m0 := obj_cell HM1.out 0
  have m1 := obj_cell HM1.out 1
  have m2 := obj_cell HM1.out 2
  have m3 := obj_cell HM1.out 3
  have m4 := obj_cell HM1.out 4
  simp only [List.getElem?_toArray, List.getElem?_cons_zero, List.getElem?_cons_succ] at m0 m1 m2 m3 m4
  go_wp2_with fail
  refine (HFA.out _).mono ?_
  rintro e w2 ⟨rfl, hb2⟩
  have HB2 := hide (HB1.out.trans (hb2.mono HB1.out.size))
  have HN2 := hide (obj_below HN1.out hb2)
  have HM2 := hide (obj_below HM1.out hb2)
  have HO2 := hide (obj_below HO1.out hb2)
  clear hb2 HB1 HN1 HM1 HO1 n0 n1 n2 m0 m1 m2 m3 m4
  have n0 := obj_cell HN2.out 0
  have n1 := obj_cell HN2.out 1
  have n2 := obj_cell HN2.out 2
  simp only [List.getElem?_toArray, List.getElem?_cons_zero, List.getElem?_cons_succ] at n0 n1 n2
  have m0 := obj_cell HM2.out 0
  have m1 := obj_cell HM2.out 1
  have m2 := obj_cell HM2.out 2
  have m3 := obj_cell HM2.out 3
  have m4 := obj_cell HM2.out 4
  simp only [List.getElem?_toArray, List.getElem?_cons_zero, List.getElem?_cons_succ] at m0 m1 m2 m3 m4
  go_wp2_with fail
  refine (HTA.out _).mono ?_
  rintro e w3 ⟨rfl, hb3⟩
  have HB3 := hide (HB2.out.trans (hb3.mono HB2.out.size))
  have HN3 := hide (obj_below HN2.out hb3)
  have HM3 := hide (obj_below HM2.out hb3)
  have HO3 := hide (obj_below HO2.out hb3)
  have HN1 := HN3
  have HM1 := HM3
  clear hb3 HB2 HN2 HM2 HO2 n0 n1 n2 m0 m1 m2 m3 m4
  have HR0 := hide (EK.row_belowB HR.out.1 HB3.out (fun k e => (EK.row_typed HR.out.1 e).2.1))
  have n0 := obj_cell HN1.out 0
  have n1 := obj_cell HN1.out 1
  have n2 := obj_cell HN1.out 2
  simp only [List.getElem?_toArray, List.getElem?_cons_zero, List.getElem?_cons_succ] at n0 n1 n2
  go_wp2_with fail
  clear n0 n1 n2
  refine wp_region_c (rsA w.heap.size q) (fun j => #[36, 37, 38, 39, 40, 41, 42, 43, 44, 45, 46, 47, 0].getD j 0) (fun d x w' => CpS w3 w.heap.size R.n (Value.slice A1 R.l.length c1) vc R.l q (d 2) (d 9) (d 10) (d 12) (x 2) (x 9) (x 10) w') (fun qi qv => rsV w.heap.size (Value.slice A1 R.l.length c1) q qi qv) (by kernel_rfl) (by kernel_rfl) rfl ⟨(Fr.refl _ _).drew, by rw [if_neg (by decide)]; exact HN1.out, (fun e => by cases e), (fun e => by cases e), (fun e => by cases e), (fun e => by cases e)⟩ ?_ ?_ ?_
  · exact fun u => ⟨fun x v => rfl, fun x v => rfl, fun x v => rfl, fun x v => rfl, fun x v => rfl, fun x v => rfl, fun x v => rfl, fun x v => rfl, fun x v => rfl, fun x v => rfl, fun x v => rfl, fun x v => rfl, fun x v => rfl, trivial⟩
  · refine fun u => ⟨?_, ?_, ?_, ?_, ?_, ?_, ?_, ?_, ?_, ?_, ?_, ?_, ?_, trivial⟩
    · intro d x w' hS hdi hv hp hcl K hK
      refine ⟨rfl, ?_⟩
      unfold rsA at hK ⊢
      go_wp2
      exact hK (.pointer (some ⟨w.heap.size, 1, none⟩)) w' hS rfl
    · intro d x w' hS hdi hv hp hcl K hK
      have d0 : x 0 = .pointer (some ⟨w.heap.size, 1, none⟩) := hv 0 (hp 0 (by kernel_rfl))
      have ne : d 12 = false := Bool.eq_false_iff.2 (fun hz => absurd (hcl 12 1 hz (by kernel_rfl)) (by rw [hdi]; decide))
      have hS1 : CpS w3 w.heap.size R.n (Value.slice A1 R.l.length c1) vc R.l q (d 2) (d 9) (d 10) (d 12) (x 2) (x 9) (x 10) w' := hS
      have z := obj_cell hS1.2.1 1
      simp only [ne, List.getElem?_toArray, List.getElem?_cons_zero, List.getElem?_cons_succ, Bool.false_eq_true, if_false] at z
      refine ⟨rfl, ?_⟩
      unfold rsA at hK ⊢
      simp only [d0] at hK ⊢
      go_wp2
      exact hK ((Value.slice A1 R.l.length c1)) w' hS rfl
    · intro d x w' hS hdi hv hp hcl K hK
      have d0 : x 1 = (Value.slice A1 R.l.length c1) := hv 1 (hp 1 (by kernel_rfl))
      have na : d 10 = false := Bool.eq_false_iff.2 (fun hz => absurd (hcl 10 2 hz (by kernel_rfl)) (by rw [hdi]; decide))
      have hS1 : CpS w3 w.heap.size R.n (Value.slice A1 R.l.length c1) vc R.l q (d 2) (d 9) (d 10) (d 12) (x 2) (x 9) (x 10) w' := hS
      rw [na] at hS1
      obtain ⟨v2, w2, hrun, hS2⟩ := hS1.copy HR0.out HVB.out HLN.out 117
      refine ⟨rfl, ?_⟩
      unfold rsA at hK ⊢
      simp only [d0] at hK ⊢
      refine wp_append_n (.const (.slice none 0 0)) (.tmp 37) 117 117 rfl rfl rfl hrun ?_
      exact hK v2 w2 (show CpS w3 w.heap.size R.n (Value.slice A1 R.l.length c1) vc R.l q (true) (d 9) (d 10) (d 12) (v2) (x 9) (x 10) w2 by rw [na]; exact hS2) trivial
    · intro d x w' hS hdi hv hp hcl K hK
      refine ⟨rfl, ?_⟩
      unfold rsA at hK ⊢
      go_wp2
      exact hK (.pointer (some ⟨(w.heap.size + 1), 1, none⟩)) w' hS rfl
    · intro d x w' hS hdi hv hp hcl K hK
      have d0 : x 3 = .pointer (some ⟨(w.heap.size + 1), 1, none⟩) := hv 3 (hp 3 (by kernel_rfl))
      have hS1 : CpS w3 w.heap.size R.n (Value.slice A1 R.l.length c1) vc R.l q (d 2) (d 9) (d 10) (d 12) (x 2) (x 9) (x 10) w' := hS
      have z := obj_cell (hS1.1.obj HM1.out (by omega)) 1
      simp only [List.getElem?_toArray, List.getElem?_cons_zero, List.getElem?_cons_succ] at z
      refine ⟨rfl, ?_⟩
      unfold rsA at hK ⊢
      simp only [d0] at hK ⊢
      go_wp2
      exact hK (.int .i64 q.a) w' hS rfl
    · intro d x w' hS hdi hv hp hcl K hK
      refine ⟨rfl, ?_⟩
      unfold rsA at hK ⊢
      go_wp2
      exact hK (.pointer (some ⟨(w.heap.size + 1), 2, none⟩)) w' hS rfl
    · intro d x w' hS hdi hv hp hcl K hK
      have d0 : x 5 = .pointer (some ⟨(w.heap.size + 1), 2, none⟩) := hv 5 (hp 5 (by kernel_rfl))
      have hS1 : CpS w3 w.heap.size R.n (Value.slice A1 R.l.length c1) vc R.l q (d 2) (d 9) (d 10) (d 12) (x 2) (x 9) (x 10) w' := hS
      have z := obj_cell (hS1.1.obj HM1.out (by omega)) 2
      simp only [List.getElem?_toArray, List.getElem?_cons_zero, List.getElem?_cons_succ] at z
      refine ⟨rfl, ?_⟩
      unfold rsA at hK ⊢
      simp only [d0] at hK ⊢
      go_wp2
      exact hK (.int .i64 q.b) w' hS rfl
    · intro d x w' hS hdi hv hp hcl K hK
      refine ⟨rfl, ?_⟩
      unfold rsA at hK ⊢
      go_wp2
      exact hK (.string q.s) w' hS rfl
    · intro d x w' hS hdi hv hp hcl K hK
      have d0 : x 4 = .int .i64 q.a := hv 4 (hp 4 (by kernel_rfl))
      have d1 : x 6 = .int .i64 q.b := hv 6 (hp 6 (by kernel_rfl))
      have d2 : x 7 = .string q.s := hv 7 (hp 7 (by kernel_rfl))
      refine ⟨rfl, ?_⟩
      unfold rsA at hK ⊢
      simp only [d0, d1, d2] at hK ⊢
      go_wp2
      exact hK (.agg #[.int .i64 q.a, .int .i64 q.b, .string q.s]) w' hS rfl
    · intro d x w' hS hdi hv hp hcl K hK
      have d0 : x 8 = .agg #[.int .i64 q.a, .int .i64 q.b, .string q.s] := hv 8 (hp 8 (by kernel_rfl))
      have na : d 10 = false := Bool.eq_false_iff.2 (fun hz => absurd (hcl 10 9 hz (by kernel_rfl)) (by rw [hdi]; decide))
      have hS1 : CpS w3 w.heap.size R.n (Value.slice A1 R.l.length c1) vc R.l q (d 2) (d 9) (d 10) (d 12) (x 2) (x 9) (x 10) w' := hS
      rw [na] at hS1
      refine ⟨rfl, ?_⟩
      unfold rsA at hK ⊢
      simp only [d0] at hK ⊢
      go_wp2
      exact hK (.slice (some ⟨w'.heap.size, 0, none⟩) 1 1) _ (show CpS w3 w.heap.size R.n (Value.slice A1 R.l.length c1) vc R.l q (d 2) (true) (d 10) (d 12) (x 2) (.slice (some ⟨w'.heap.size, 0, none⟩) 1 1) (x 10) _ by rw [na]; exact hS1.build) trivial
    · intro d x w' hS hdi hv hp hcl K hK
      have yc : d 2 = true := hp 2 (by kernel_rfl)
      have ys : d 9 = true := hp 9 (by kernel_rfl)
      have ne : d 12 = false := Bool.eq_false_iff.2 (fun hz => absurd (hcl 12 10 hz (by kernel_rfl)) (by rw [hdi]; decide))
      have hS1 : CpS w3 w.heap.size R.n (Value.slice A1 R.l.length c1) vc R.l q (d 2) (d 9) (d 10) (d 12) (x 2) (x 9) (x 10) w' := hS
      rw [hdi, yc, ys] at hS1
      obtain ⟨b, v3, w2, e1, hrun, hS2⟩ := hS1.app HLN.out 117
      have hS2' : CpS w3 w.heap.size R.n (Value.slice A1 R.l.length c1) vc R.l q (true) (true) (true) (d 12) (x 2) (x 9) (v3) w2 := by rw [ne]; exact hS2
      refine ⟨rfl, ?_⟩
      unfold rsA at hK ⊢
      simp only [e1] at hK ⊢
      refine wp_append_n (.tmp 38) (.tmp 45) 117 117 rfl rfl rfl hrun ?_
      exact hK v3 w2 (show CpS w3 w.heap.size R.n (Value.slice A1 R.l.length c1) vc R.l q (d 2) (d 9) (true) (d 12) (x 2) (.slice (some ⟨b, 0, none⟩) 1 1) (v3) w2 by rw [yc, ys]; rw [e1] at hS2'; exact hS2') trivial
    · intro d x w' hS hdi hv hp hcl K hK
      refine ⟨rfl, ?_⟩
      unfold rsA at hK ⊢
      go_wp2
      exact hK (.pointer (some ⟨w.heap.size, 1, none⟩)) w' hS rfl
    · intro d x w' hS hdi hv hp hcl K hK
      have d0 : x 11 = .pointer (some ⟨w.heap.size, 1, none⟩) := hv 11 (hp 11 (by kernel_rfl))
      have ya : d 10 = true := hp 10 (by kernel_rfl)
      have hS1 : CpS w3 w.heap.size R.n (Value.slice A1 R.l.length c1) vc R.l q (d 2) (d 9) (d 10) (d 12) (x 2) (x 9) (x 10) w' := hS
      rw [hdi, ya] at hS1
      obtain ⟨A5, c5, e3⟩ := EK.row_slice (hS1.2.2.2.2.1 rfl)
      generalize (_ ++ _ : List Rw).length = m5 at e3
      have z := obj_cell hS1.2.1 1
      have tz := obj_frozen hS1.2.1 1
      simp only [List.getElem?_toArray, List.getElem?_cons_zero, List.getElem?_cons_succ] at z
      have hS2 := hS1.store
      refine ⟨rfl, ?_⟩
      unfold rsA at hK ⊢
      simp only [d0, e3] at hK ⊢
      go_wp2
      refine hK undef _ (show CpS w3 w.heap.size R.n (Value.slice A1 R.l.length c1) vc R.l q (d 2) (d 9) (d 10) (true) (x 2) (x 9) (.slice A5 m5 c5) _ from ?_) trivial
      rw [ya]
      rw [e3] at hS2
      exact hS2
  · intro u hu d x w' hS hd hv
    have hda := hd 10 (by decide)
    have hde := hd 12 (by decide)
    have hS1 : CpS w3 w.heap.size R.n (Value.slice A1 R.l.length c1) vc R.l q (d 2) (d 9) (d 10) (d 12) (x 2) (x 9) (x 10) w' := hS
    rw [hda, hde] at hS1
    have hrow := hS1.2.2.2.2.1 rfl
    have hN := hS1.2.1
    rw [if_pos rfl] at hN
    have hO := hS1.1.obj HO3.out (by omega)
    have hBw := HB3.out.trans (hS1.1.below _ HB3.out.size (fun j hj e => by omega))
    have hCr := EK.row_belowB HR.out.2 hBw HVCB.out
    obtain ⟨v3, hv3⟩ : ∃ v, v = x 10 := ⟨_, rfl⟩
    rw [← hv3] at hN hrow
    have hst := store_whole (P := Try.prog) (ty := 120) hO (cells := #[.int .i64 R.n, v3, vc]) info120 rfl (by
      obtain ⟨A5, c5, e5⟩ := EK.row_slice hrow
      obtain ⟨A6, c6, e6⟩ := EK.row_slice hCr
      rw [e5, e6]
      simp [Value.oneCell'])
    have HST := hide hst
    have F := setRow_fr' w' (w.heap.size + 1 + 1) #[.int .i64 R.n, v3, vc]
    have HFIN := hide (show RS (w'.setRow (w.heap.size + 1 + 1) #[.int .i64 R.n, v3, vc]) (nx1 R q) v3 vc ∧ Below w.heap.size w (w'.setRow (w.heap.size + 1 + 1) #[.int .i64 R.n, v3, vc]) from
      ⟨⟨EK.row_base (EK.row_fr hrow F (fun k hk e => k127_ne hrow hO (by decide) (e ▸ hk))) (Nat.zero_le _), EK.row_fr hCr F (fun k hk e => by have := HVCB.out k hk; omega)⟩, hBw.trans (F.below _ hBw.size (fun j hj e => by omega))⟩)
    have HOO := hide (setRow_at' (C' := #[.int .i64 R.n, v3, vc]) hO)
    have n0 := obj_cell hN 0
    have n1 := obj_cell hN 1
    have n2 := obj_cell hN 2
    simp only [List.getElem?_toArray, List.getElem?_cons_zero, List.getElem?_cons_succ] at n0 n1 n2
    clear hS hS1 hd hv hu hda hde hrow hN hO hBw hCr hst F hv3
    unfold rsA
    go_wp2_with (refine wpList_storev' rfl 120 (.tmp 4) (.tmp 48) rfl rfl rfl HST.out ?_)
    refine bodyPost_ret (res_ct rfl _ _ (w.heap.size + 1 + 1) 120 _ (0, 0) _ rfl HOO.out Try.underlying120 rfl info120) rfl ?_
    exact ⟨v3, rfl, HFIN.out⟩
end Go.Proofs.Ytljmaicobafgkaa
end
