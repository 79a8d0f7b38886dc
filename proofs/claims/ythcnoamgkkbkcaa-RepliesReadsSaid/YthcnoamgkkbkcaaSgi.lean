/- Rows that begin anywhere in their block: one element put in between. Generic. -/
import Derived.Test.YthcnoamgkkbkcaaSg
import Derived.Test.YthcnoamgkkbkcaaOpl
import Derived.Lib.Overlaps
namespace Go.Proofs.Ythcnoamgkkbkcaa
open Go.RowKit

section
variable {P : Program} {w w' : World} {o : Oper} {a : Act} {Q : Exit → Act → World → Prop} {ops : Array Oper} {rest : List Oper}
theorem wpList_sliceN (hgd : o.guard = none) (ty : TypeId) (x : Operand) (lo hi : Option Operand) (ho : o.op = .slice ty x lo hi none) {v u : Value} {l' h' : Option Value} (hx : a.eval x = v) (hl : lo.map a.eval = l') (hh : hi.map a.eval = h')
    (hrun : (Instr.sliceAt ty v l' h' none).run P w = .ok u w) (h : wpList P ops Q rest (a.put o.dst u) w) : wpList P ops Q (o :: rest) a w :=
  wpList_plain hgd fun _ hK => wp_slice_n ty x lo hi ho hx hl hh hrun (hK _ _ h)
theorem wpList_copyN (hgd : o.guard = none) (d s : Operand) (t t' : TypeId)
    (ho : o.op = .call { callee := .builtin .copy, args := #[d, s], argTypes := #[t, t'] }) {vd vs v' : Value} (hd : a.eval d = vd) (hs : a.eval s = vs)
    (hrun : (Builtin.copy_ #[t, t'] o.type #[vd, vs]).run P w = .ok v' w') (h : wpList P ops Q rest (a.put o.dst v') w') : wpList P ops Q (o :: rest) a w :=
  wpList_plain hgd fun K hK => by
    unfold Oper.wp execOp
    simp only [ho, resolve, invoke, builtin, Sem.run_bind, Sem.run_pure, Result.andThen_ok, List.map_toArray, List.map_cons, List.map_nil, hd, hs, hrun]
    exact hK _ _ h
end
section
variable {P : Program} {α : Type} {K : EK P α}
/-- x[lo:hi] within the capacity. -/
theorem EK.run_cut (K : EK P α) {b o n c : Nat} (w : World) {lo hi : Nat} (h1 : lo ≤ hi) (h2 : hi ≤ c) (h3 : lo < c) (lo' hi' : Option Value) (hl : (lo' = none ∧ lo = 0) ∨ lo' = some (.int .i64 (lo : Int))) (hh : (hi' = none ∧ hi = n) ∨ hi' = some (.int .i64 (hi : Int))) :
    (Instr.sliceAt K.t (.slice (some ⟨b, o, none⟩) n c) lo' hi' none).run P w = .ok (.slice (some ⟨b, o + lo * K.sz, none⟩) (hi - lo) (c - lo)) w := by
  obtain ⟨i0, z0, hi0, hz0, hz1, hz2, hz3⟩ := K.inf
  have e1 : ¬ c < hi := by omega
  have e2 : ¬ hi < lo := by omega
  have e3 : ¬ c = lo := by omega
  have e4 : ¬ c < lo := by omega
  have e5 : ¬ c = 0 := by omega
  rcases hl with ⟨rfl, rfl⟩ | rfl <;> rcases hh with ⟨rfl, rfl⟩ | rfl <;>
    simp [Instr.sliceAt, Instr.slice, Instr.sliceBounds, Instr.sliceBound, asIntOf, run_underlying K.und, sizeOf, typeInfo, hi0, hz1, h1, h2, e3, add_plain']
theorem EK.run_copy (K : EK P α) (w : World) (ty : TypeId) (b o dLen dCap : Nat) (a : Addr) (sLen sCap m : Nat) (cs : List Value) (hm : m = Nat.min sLen dLen) (hn : cs.length = m * K.sz)
    (hsrc : ∀ j v, cs[j]? = some v → w.cell? (a.add j) = some v) (hc : ∀ j, j < cs.length → (w.cell? ⟨b, o + j, none⟩).isSome = true) (hf : ∀ j, j < cs.length → w.frozen? ⟨b, o + j, none⟩ = false) (h1 : ∀ v ∈ cs, v.oneCell' = true) :
    (Builtin.copy_ #[K.t, K.t] ty #[.slice (some ⟨b, o, none⟩) dLen dCap, .slice (some a) sLen sCap]).run P w = .ok (goInt m) (w.setCells b o cs) := by
  obtain ⟨i0, z0, hi0, hz0, hz1, hz2, hz3⟩ := K.inf
  have hl := run_loadCells_list (P := P) w a cs hsrc
  have hst := run_storeCells_cells (P := P) b o cs 0 w (by simpa using hc) (by simpa using hf) h1
  subst hm
  rw [hn] at hl
  simp [Builtin.copy_, run_underlying K.und, Builtin.lenOf, Builtin.firstCells, sizeOf, typeInfo, hi0, hz1, hl, hst]
theorem vals_mid {l : List α} {i : Nat} (hi : i ≤ l.length) (q : α) : K.vals (l.take i ++ q :: l.drop i) = (K.vals l).take (i * K.sz) ++ (K.cs q ++ (K.vals l).drop (i * K.sz)) := by
  have e : K.vals (q :: l.drop i) = K.cs q ++ K.vals (l.drop i) := by simp only [EK.vals, List.flatMap_cons]
  rw [EK.vapp, e, EK.vtake hi, EK.vdrop hi]
/-- The cells behind both copies. -/
theorem mid_get {l : List α} {i : Nat} (hi : i ≤ l.length) (q : α) (t : Nat) : (K.vals (l.take i ++ q :: l.drop i))[t]? = if t < i * K.sz then (K.vals l)[t]? else if t < i * K.sz + K.sz then (K.cs q)[t - i * K.sz]? else (K.vals l)[t - K.sz]? := by
  have hv := EK.vlen (K := K) l
  have hle : i * K.sz ≤ l.length * K.sz := Nat.mul_le_mul_right _ hi
  have hlen := K.len q
  rw [vals_mid hi]
  by_cases h1 : t < i * K.sz
  · rw [if_pos h1, List.getElem?_append_left (by rw [List.length_take]; omega), List.getElem?_take, if_pos h1]
  · rw [if_neg h1, List.getElem?_append_right (by rw [List.length_take]; omega), List.length_take, Nat.min_eq_left (by omega)]
    by_cases h2 : t < i * K.sz + K.sz
    · rw [if_pos h2, List.getElem?_append_left (by omega)]
    · rw [if_neg h2, List.getElem?_append_right (by omega), List.getElem?_drop, hlen]
      congr 1
      omega
/-- In place: there is room. -/
theorem EK.ins_room {w : World} {B b o n c : Nat} {l : List α} (h : K.sg w B (.slice (some ⟨b, o, none⟩) n c) l) {i : Nat} (hi : i < l.length) (hc1 : l.length + 1 ≤ c) {q : α} {vb : Nat} (hv : w.heap[vb]? = some (.cells (K.cs q).toArray K.e (0, 0))) (hne : vb ≠ b) (ty : TypeId) :
    ∃ w1 w2, (Builtin.copy_ #[K.t, K.t] ty #[.slice (some ⟨b, o + (i + 1) * K.sz, none⟩) (l.length - i) (c - (i + 1)), .slice (some ⟨b, o + i * K.sz, none⟩) (l.length + 1 - i) (c - i)]).run P w = .ok (goInt ((l.length - i : Nat) : Int)) w1 ∧
      (Builtin.copy_ #[K.t, K.t] ty #[.slice (some ⟨b, o + i * K.sz, none⟩) (l.length + 1 - i) (c - i), .slice (some ⟨vb, 0, none⟩) 1 1]).run P w1 = .ok (goInt 1) w2 ∧
      K.sg w2 B (.slice (some ⟨b, o, none⟩) (l.length + 1) c) (l.take i ++ q :: l.drop i) ∧ Fr (fun j => j = b) w w2 := by
  rcases h with ⟨e, _⟩ | ⟨b', o', c', cur, e, h2, h3, h4, h5, h6, h7⟩
  · cases e
  cases e
  have hp := K.pos
  have hlen := K.len q
  have hvl := EK.vlen (K := K) l
  have hfit : (l.length + 1) * K.sz ≤ c * K.sz := Nat.mul_le_mul_right _ hc1
  rw [Nat.add_mul, Nat.one_mul] at hfit
  have hile : i * K.sz + K.sz ≤ l.length * K.sz := by
    have : (i + 1) * K.sz ≤ l.length * K.sz := Nat.mul_le_mul_right _ hi
    rwa [Nat.add_mul, Nat.one_mul] at this
  obtain ⟨D, hD⟩ : ∃ D, D = (K.vals l).drop (i * K.sz) := ⟨_, rfl⟩
  have hDl : D.length = (l.length - i) * K.sz := by rw [hD, List.length_drop, hvl, Nat.sub_mul]
  have hDl2 : D.length = l.length * K.sz - i * K.sz := by rw [hDl, Nat.sub_mul]
  have hi1 : (i + 1) * K.sz = i * K.sz + K.sz := by rw [Nat.add_mul, Nat.one_mul]
  have r1 := K.run_copy w ty b (o + (i + 1) * K.sz) (l.length - i) (c - (i + 1)) ⟨b, o + i * K.sz, none⟩ (l.length + 1 - i) (c - i) (l.length - i) D (by
      show _ = min (l.length + 1 - i) (l.length - i)
      omega) hDl
    (fun j u hu => by
      have hj : j < D.length := (List.getElem?_eq_some_iff.1 hu).1
      rw [hD, List.getElem?_drop] at hu
      rw [add_plain', obj_cell h3, ← hu, ← h7 _ (by omega), Nat.add_assoc])
    (fun j hj => by
      rw [obj_cell h3, Array.getElem?_eq_getElem (by omega)]
      rfl) (fun j _ => obj_frozen h3 _) (fun u hu => EK.vone (List.mem_of_mem_drop (hD ▸ hu)))
  have h31 := setCells_at D (o + (i + 1) * K.sz) w cur h3
  have F1 := setCells_fr b D (o + (i + 1) * K.sz) w
  have hv1 := F1.obj hv hne
  generalize w.setCells b (o + (i + 1) * K.sz) D = w1 at r1 h31 F1 hv1
  have r2 := K.run_copy w1 ty b (o + i * K.sz) (l.length + 1 - i) (c - i) ⟨vb, 0, none⟩ 1 1 1 (K.cs q) (by
      show _ = min 1 (l.length + 1 - i)
      omega) (by rw [hlen]; omega)
    (fun j u hu => by
      rw [add_plain', obj_cell hv1, Nat.zero_add, ← Array.getElem?_toList]
      exact hu)
    (fun j hj => by
      rw [obj_cell h31, Array.getElem?_eq_getElem (by rw [stl_size]; omega)]
      rfl) (fun j _ => obj_frozen h31 _) (fun u hu => K.one q u hu)
  refine ⟨w1, _, r1, r2, .inr ⟨b, o, c, _, ?_, h2, setCells_at _ _ _ _ h31, ?_, h5, ?_, fun t ht => ?_⟩, F1.trans (setCells_fr b _ _ w1) (fun _ _ e => e)⟩
  · congr 1
    rw [List.length_append, List.length_cons, List.length_take, List.length_drop]
    omega
  · rw [List.length_append, List.length_cons, List.length_take, List.length_drop]
    omega
  · rw [stl_size, stl_size]
    exact h6
  · have hml : (l.take i ++ q :: l.drop i).length = l.length + 1 := by
      rw [List.length_append, List.length_cons, List.length_take, List.length_drop]
      omega
    rw [hml, Nat.add_mul, Nat.one_mul] at ht
    rw [mid_get (by omega), stl_get _ _ _ _ (by rw [stl_size]; omega), stl_get _ _ _ _ (by omega), hlen]
    by_cases c1 : t < i * K.sz
    · rw [if_pos c1, if_neg (by omega), if_neg (by omega)]
      exact h7 t (by omega)
    · rw [if_neg c1]
      by_cases c2 : t < i * K.sz + K.sz
      · rw [if_pos c2, if_pos (by omega)]
        congr 1
        omega
      · rw [if_neg c2, if_neg (by omega), if_pos (by omega), hD, List.getElem?_drop]
        congr 1
        omega
theorem zero_size (z : Array Value) (n : Nat) : (Builtin.zeroCells z n).size = n * z.size := by simp [Builtin.zeroCells]
/-- Into a new row: there is no room. -/
theorem EK.ins_grow {w : World} {B b o n c : Nat} {l : List α} (h : K.sg w B (.slice (some ⟨b, o, none⟩) n c) l) (hB : B ≤ w.heap.size) {i : Nat} (hi : i < l.length) (hc1 : ¬ l.length + 1 ≤ c) (hl : l.length ≤ 1048576) {q : α} {vb : Nat} (hv : w.heap[vb]? = some (.cells (K.cs q).toArray K.e (0, 0))) {tn : TypeId} (htn : P.underlying tn = some (.int .i64)) (ty ty2 : TypeId) :
    ∃ C w1 w2 w3, l.length + 1 ≤ C ∧ C ≤ maxLen ∧ (Builtin.append_ #[K.t, tn] ty #[.slice (some ⟨b, o, none⟩) i c, .int .i64 ((l.length + 1 - i : Nat) : Int)]).run P w = .ok (.slice (some ⟨w.heap.size, 0, none⟩) (l.length + 1) C) w1 ∧
      (Builtin.copy_ #[K.t, K.t] ty2 #[.slice (some ⟨w.heap.size, i * K.sz, none⟩) (l.length + 1 - i) (C - i), .slice (some ⟨vb, 0, none⟩) 1 1]).run P w1 = .ok (goInt 1) w2 ∧
      (Builtin.copy_ #[K.t, K.t] ty2 #[.slice (some ⟨w.heap.size, (i + 1) * K.sz, none⟩) (l.length - i) (C - (i + 1)), .slice (some ⟨b, o + i * K.sz, none⟩) (l.length - i) (c - i)]).run P w2.drew = .ok (goInt ((l.length - i : Nat) : Int)) w3 ∧
      K.sg w3 B (.slice (some ⟨w.heap.size, 0, none⟩) (l.length + 1) C) (l.take i ++ q :: l.drop i) ∧ Below w.heap.size w w3 := by
  rcases h with ⟨e, _⟩ | ⟨b', o', c', cur, e, h2, h3, h4, h5, h6, h7⟩
  · cases e
  cases e
  obtain ⟨i0, z0, hi0, hz0, hz1, hz2, hz3⟩ := K.inf
  have hp := K.pos
  have hlen := K.len q
  have hsm := K.small
  have hvl := EK.vlen (K := K) l
  have hblt := obj_lt h3
  have hile : i * K.sz + K.sz ≤ l.length * K.sz := by
    have : (i + 1) * K.sz ≤ l.length * K.sz := Nat.mul_le_mul_right _ hi
    rwa [Nat.add_mul, Nat.one_mul] at this
  have hcl : l.length * K.sz ≤ c * K.sz := Nat.mul_le_mul_right _ h4
  have hi1 : (i + 1) * K.sz = i * K.sz + K.sz := by rw [Nat.add_mul, Nat.one_mul]
  obtain ⟨O, hO⟩ : ∃ O, O = (K.vals l).take (i * K.sz) := ⟨_, rfl⟩
  have hOl : O.length = i * K.sz := by rw [hO, List.length_take]; omega
  have hsrc : ∀ j u, O[j]? = some u → w.drew.cell? ((⟨b, o, none⟩ : Addr).add j) = some u := fun j u hu => by
    have hj : j < O.length := (List.getElem?_eq_some_iff.1 hu).1
    rw [hO, List.getElem?_take, if_pos (by omega)] at hu
    rw [add_plain', obj_cell (show w.drew.heap[b]? = _ from h3), ← hu, ← h7 _ (by omega)]
  have hld := run_loadCells_list (P := P) w.drew ⟨b, o, none⟩ O hsrc
  obtain ⟨k, hk⟩ : ∃ k, k = l.length + 1 - i := ⟨_, rfl⟩
  have hik : i + k = l.length + 1 := by omega
  have hbk : (i + k) * i0.bytes ≤ 1048577 * 4096 := by rw [hz2]; exact Nat.mul_le_mul (by omega) hsm
  have hkb : k * i0.bytes ≤ (i + k) * i0.bytes := Nat.mul_le_mul_right _ (by omega)
  have hge := grownCap_ge w (i + k) c K.e
  have hcm : grownCap w (i + k) c K.e ≤ maxLen := grownCap_le_maxLen w (i + k) c K.e (by simp only [maxLen]; omega)
  have r0 := Lib.run_append_grow_zeros (P := P) w K.t tn ty K.e i0 z0 .i64 .i64 K.und htn hi0 hz0 (some ⟨b, o, none⟩) i c O (by
    show (loadCells ⟨b, o, none⟩ (i * i0.size)).run P w.drew = _
    rw [hz1, ← hOl]
    exact hld) k (by omega) (by omega) (by omega) (by omega) (by omega) (by
      have := growslice_fits (bytes := i0.bytes) (need := i + k) (old := c) (by omega) (by omega)
      omega)
  rw [hik] at r0 hge hcm
  obtain ⟨C, hC⟩ : ∃ C, C = grownCap w (l.length + 1) c K.e := ⟨_, rfl⟩
  rw [← hC] at r0 hge hcm
  obtain ⟨X, hX⟩ : ∃ X, X = O.toArray ++ Builtin.zeroCells z0.cells k ++ Builtin.zeroCells z0.cells (C - (l.length + 1)) := ⟨_, rfl⟩
  have hXs : X.size = C * K.sz := by
    rw [hX, Array.size_append, Array.size_append, List.size_toArray, zero_size, zero_size, hz3, hOl, ← Nat.add_mul, ← Nat.add_mul]
    congr 1
    omega
  have hX0 : ∀ t, t < i * K.sz → X[t]? = (K.vals l)[t]? := fun t ht => by
    rw [hX, Array.append_assoc, Array.getElem?_append_left (by rw [List.size_toArray]; omega), List.getElem?_toArray, hO, List.getElem?_take, if_pos ht]
  rw [← hX] at r0
  have hfit : (l.length + 1) * K.sz ≤ C * K.sz := Nat.mul_le_mul_right _ hge
  rw [Nat.add_mul, Nat.one_mul] at hfit
  have hg1 : (w.drew.alloc (.cells X K.e)).heap[w.heap.size]? = some (.cells X K.e (0, 0)) := heap_alloc_new w.drew _
  have hb1 : Below w.heap.size w (w.drew.alloc (.cells X K.e)) := ((Below.refl w.heap.size w).drew).alloc (Nat.le_refl _) _
  have h31 := obj_below h3 hb1
  have hv1 := obj_below hv hb1
  generalize w.drew.alloc (.cells X K.e) = w1 at r0 hg1 hb1 h31 hv1
  have r2 := K.run_copy w1 ty2 w.heap.size (i * K.sz) (l.length + 1 - i) (C - i) ⟨vb, 0, none⟩ 1 1 1 (K.cs q) (by
      show _ = min 1 (l.length + 1 - i)
      omega) (by rw [hlen]; omega)
    (fun j u hu => by
      rw [add_plain', obj_cell hv1, Nat.zero_add, ← Array.getElem?_toList]
      exact hu)
    (fun j hj => by
      rw [obj_cell hg1, Array.getElem?_eq_getElem (by omega)]
      rfl) (fun j _ => obj_frozen hg1 _) (fun u hu => K.one q u hu)
  have hg2 := setCells_at (K.cs q) (i * K.sz) w1 X hg1
  have F2 := setCells_fr w.heap.size (K.cs q) (i * K.sz) w1
  have h32 := F2.obj h31 (by omega)
  have hb2 : Below w.heap.size w (w1.setCells w.heap.size (i * K.sz) (K.cs q)) := hb1.trans (F2.below _ hb1.size (fun j hj e => by omega))
  generalize w1.setCells w.heap.size (i * K.sz) (K.cs q) = w2 at r2 hg2 h32 hb2
  obtain ⟨D, hD⟩ : ∃ D, D = (K.vals l).drop (i * K.sz) := ⟨_, rfl⟩
  have hDl : D.length = (l.length - i) * K.sz := by rw [hD, List.length_drop, hvl, Nat.sub_mul]
  have hDl2 : D.length = l.length * K.sz - i * K.sz := by rw [hDl, Nat.sub_mul]
  have r3 := K.run_copy w2.drew ty2 w.heap.size ((i + 1) * K.sz) (l.length - i) (C - (i + 1)) ⟨b, o + i * K.sz, none⟩ (l.length - i) (c - i) (l.length - i) D (by
      show _ = min (l.length - i) (l.length - i)
      omega) hDl
    (fun j u hu => by
      have hj : j < D.length := (List.getElem?_eq_some_iff.1 hu).1
      rw [hD, List.getElem?_drop] at hu
      rw [add_plain', obj_cell (show w2.drew.heap[b]? = _ from h32), ← hu, ← h7 _ (by omega), Nat.add_assoc])
    (fun j hj => by
      rw [obj_cell (show w2.drew.heap[w.heap.size]? = _ from hg2), Array.getElem?_eq_getElem (by rw [stl_size]; omega)]
      rfl) (fun j _ => obj_frozen (show w2.drew.heap[w.heap.size]? = _ from hg2) _) (fun u hu => EK.vone (List.mem_of_mem_drop (hD ▸ hu)))
  have hml : (l.take i ++ q :: l.drop i).length = l.length + 1 := by
    rw [List.length_append, List.length_cons, List.length_take, List.length_drop]
    omega
  refine ⟨C, w1, w2, _, hge, hcm, by rw [← hk]; exact r0, r2, r3, .inr ⟨w.heap.size, 0, C, _, by rw [hml], hB, setCells_at D ((i + 1) * K.sz) w2.drew _ hg2, by rw [hml]; exact hge, hcm, by rw [stl_size, stl_size, hXs, Nat.zero_add], fun t ht => ?_⟩, ?_⟩
  · rw [hml, Nat.add_mul, Nat.one_mul] at ht
    rw [mid_get (by omega), Nat.zero_add, stl_get _ _ _ _ (by rw [stl_size]; omega), stl_get _ _ _ _ (by omega), hlen]
    by_cases c1 : t < i * K.sz
    · rw [if_pos c1, if_neg (by omega), if_neg (by omega)]
      exact hX0 t c1
    · rw [if_neg c1]
      by_cases c2 : t < i * K.sz + K.sz
      · rw [if_pos c2, if_neg (by omega), if_pos (by omega)]
      · rw [if_neg c2, if_pos (by omega), hD, List.getElem?_drop]
        congr 1
        omega
  · have F3 := setCells_fr w.heap.size D ((i + 1) * K.sz) w2.drew
    have hb3 : Below w.heap.size w w2.drew := hb2.drew
    exact hb3.trans (F3.below _ hb3.size (fun j hj e => by omega))
end
end Go.Proofs.Ythcnoamgkkbkcaa
