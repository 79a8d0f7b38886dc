/- Rows that begin anywhere in their block: elements, parts, append, store. Generic. -/
import Derived.Test.YthcnoamgkkbkcaaGs
import Derived.Lib.AppendZerosOnto
namespace Go.Proofs.Ythcnoamgkkbkcaa
open Go.RowKit

section
variable {P : Program} {α : Type} {K : EK P α}
/-- A row of one's own that begins at cell o of its block. -/
def EK.sg (K : EK P α) (w : World) (B : Nat) (v : Value) (l : List α) : Prop := (v = .slice none 0 0 ∧ l = []) ∨
  ∃ (b o c : Nat) (cur : Array Value), v = .slice (some ⟨b, o, none⟩) l.length c ∧ B ≤ b ∧ w.heap[b]? = some (.cells cur K.e (0, 0)) ∧ l.length ≤ c ∧ c ≤ maxLen ∧ cur.size = o + c * K.sz ∧ ∀ t, t < l.length * K.sz → cur[o + t]? = (K.vals l)[t]?
theorem EK.row_sg {w : World} {B : Nat} {v : Value} {l : List α} (h : K.row w B v l) : K.sg w B v l := by
  rcases h.2 with ⟨e, h0⟩ | ⟨g, cap, cur, e, hb, hc, hn, hm, hs, ht⟩
  · exact .inl ⟨e, List.length_eq_zero_iff.1 h0⟩
  · refine .inr ⟨g, 0, cap, cur, e, hb, hc, hn, hm, by omega, fun t htl => ?_⟩
    rw [← ht, List.getElem?_take, if_pos htl, Array.getElem?_toList, Nat.zero_add]
theorem EK.sg_nil (w : World) (B : Nat) : K.sg w B (.slice none 0 0) [] := .inl ⟨rfl, rfl⟩
theorem EK.sg_below {w w' : World} {B : Nat} {v : Value} {l : List α} (h : K.sg w B v l) (hb : Below w.heap.size w w') : K.sg w' B v l := by
  rcases h with h | ⟨b, o, c, cur, h1, h2, h3, h4⟩
  · exact .inl h
  · exact .inr ⟨b, o, c, cur, h1, h2, obj_below h3 hb, h4⟩
theorem EK.sg_fr {F : Nat → Prop} {w w' : World} {B : Nat} {v : Value} {l : List α} (h : K.sg w B v l) (hf : Fr F w w') (hv : ∀ k, v.ownBlock = some k → ¬ F k) : K.sg w' B v l := by
  rcases h with h | ⟨b, o, c, cur, h1, h2, h3, h4⟩
  · exact .inl h
  · exact .inr ⟨b, o, c, cur, h1, h2, hf.obj h3 (hv b (by rw [h1]; rfl)), h4⟩
theorem EK.sg_base {w : World} {B B' : Nat} {v : Value} {l : List α} (h : K.sg w B v l) (hB : B' ≤ B) : K.sg w B' v l := by
  rcases h with h | ⟨b, o, c, cur, h1, h2, h3⟩
  · exact .inl h
  · exact .inr ⟨b, o, c, cur, h1, Nat.le_trans hB h2, h3⟩
theorem EK.sg_typed {w : World} {B : Nat} {v : Value} {l : List α} (h : K.sg w B v l) {k : Nat} (hk : v.ownBlock = some k) : B ≤ k ∧ k < w.heap.size ∧ ∃ cs, w.heap[k]? = some (.cells cs K.e (0, 0)) := by
  rcases h with ⟨rfl, -⟩ | ⟨b, o, c, cur, rfl, h2, h3, -⟩
  · cases hk
  · cases hk
    exact ⟨h2, obj_lt h3, cur, h3⟩
theorem EK.sg_ne {w : World} {B : Nat} {v : Value} {l : List α} (h : K.sg w B v l) {k : Nat} {cs : Array Value} {t : TypeId} {f : Nat × Nat} (hk : w.heap[k]? = some (.cells cs t f)) (ht : t ≠ K.e) : ∀ j, v.ownBlock = some j → ¬ j = k := by
  rintro j e rfl
  obtain ⟨_, _, cs', h2⟩ := EK.sg_typed h e
  rw [hk] at h2
  simp only [Option.some.injEq, Obj.cells.injEq] at h2
  exact ht h2.2.1
theorem EK.sg_slice {w : World} {B : Nat} {v : Value} {l : List α} (h : K.sg w B v l) : ∃ A c, v = .slice A l.length c ∧ l.length ≤ c ∧ c ≤ maxLen := by
  rcases h with ⟨rfl, rfl⟩ | ⟨b, o, c, cur, rfl, h2, h3, h4, h5, -⟩
  · exact ⟨none, 0, rfl, Nat.le_refl _, Nat.zero_le _⟩
  · exact ⟨_, c, rfl, h4, h5⟩
theorem EK.sg_rd {w : World} {B : Nat} {v : Value} {l : List α} (h : K.sg w B v l) : K.rd w v l := by
  rcases h with ⟨rfl, rfl⟩ | ⟨b, o, c, cur, rfl, h2, h3, h4, h5, h6, h7⟩
  · exact ⟨none, 0, rfl, Nat.le_refl _, Nat.zero_le _, .inl ⟨rfl, rfl⟩⟩
  · refine ⟨_, c, rfl, h4, h5, .inr ⟨_, rfl, fun j u hu => ?_⟩⟩
    have hj : j < l.length * K.sz := by
      have := (List.getElem?_eq_some_iff.1 hu).1
      rwa [EK.vlen] at this
    rw [add_plain', obj_cell h3, h7 j hj, hu]
theorem EK.sg_cells {w : World} {B : Nat} {v : Value} {l : List α} (h : K.sg w B v l) {k : Nat} (hk : k < l.length) : ∃ b o c, v = .slice (some ⟨b, o, none⟩) l.length c ∧ l.length ≤ c ∧ c ≤ maxLen ∧ B ≤ b ∧ b < w.heap.size ∧
    ∀ j, j < K.sz → w.cell? ⟨b, o + k * K.sz + j, none⟩ = (K.cs l[k])[j]? := by
  rcases h with ⟨_, rfl⟩ | ⟨b, o, c, cur, rfl, h2, h3, h4, h5, h6, h7⟩
  · simp at hk
  · refine ⟨b, o, c, rfl, h4, h5, h2, obj_lt h3, fun j hj => ?_⟩
    have h1 : k * K.sz + j < l.length * K.sz := by
      have : (k + 1) * K.sz ≤ l.length * K.sz := Nat.mul_le_mul_right _ hk
      rw [Nat.add_mul] at this
      omega
    rw [obj_cell h3, ← EK.vget hk hj, ← h7 _ h1, Nat.add_assoc]
theorem EK.sg_frozen {w : World} {B b o n c : Nat} {l : List α} (h : K.sg w B (.slice (some ⟨b, o, none⟩) n c) l) (j : Nat) : w.frozen? ⟨b, j, none⟩ = false := by
  rcases h with ⟨e, _⟩ | ⟨b', o', c', cur, e, h2, h3, -⟩
  · cases e
  cases e
  exact obj_frozen h3 j
theorem stl_seg {cur : Array Value} {o n : Nat} {l l' : List α} (h7 : ∀ t, t < n → cur[o + t]? = (K.vals l)[t]?) {p : Nat} {vs : List Value} (hp : p + vs.length ≤ n) (hsz : o + n ≤ cur.size) (hv : ∀ t, t < n → (K.vals l')[t]? = if p ≤ t ∧ t < p + vs.length then vs[t - p]? else (K.vals l)[t]?) :
    ∀ t, t < n → (stl cur (o + p) vs)[o + t]? = (K.vals l')[t]? := by
  intro t ht
  rw [stl_get _ _ _ _ (by omega), hv t ht]
  by_cases hc : p ≤ t ∧ t < p + vs.length
  · rw [if_pos hc, if_pos (by omega), show o + t - (o + p) = t - p by omega]
  · rw [if_neg hc, if_neg (by omega)]
    exact h7 t ht
/-- xs[k] = x. -/
theorem EK.sg_put {w : World} {B b o n c : Nat} {l : List α} (h : K.sg w B (.slice (some ⟨b, o, none⟩) n c) l) {k : Nat} (hk : k < l.length) (x : α) :
    (Instr.storeAt K.e (.pointer (some ⟨b, o + k * K.sz, none⟩)) (.agg (K.cs x).toArray)).run P w = .ok () (w.setCells b (o + k * K.sz) (K.cs x)) ∧ K.sg (w.setCells b (o + k * K.sz) (K.cs x)) B (.slice (some ⟨b, o, none⟩) n c) (l.set k x) ∧ Fr (fun j => j = b) w (w.setCells b (o + k * K.sz) (K.cs x)) := by
  rcases h with ⟨e, _⟩ | ⟨b', o', c', cur, e, h2, h3, h4, h5, h6, h7⟩
  · cases e
  cases e
  have hk2 : (k + 1) * K.sz ≤ l.length * K.sz := Nat.mul_le_mul_right _ hk
  have hn2 : l.length * K.sz ≤ c * K.sz := Nat.mul_le_mul_right _ h4
  rw [Nat.add_mul, Nat.one_mul] at hk2
  have hlen := K.len x
  obtain ⟨i, z, hi1, hi2, hi3, hi4, hi5⟩ := K.inf
  refine ⟨?_, .inr ⟨b, o, c, stl cur (o + k * K.sz) (K.cs x), by rw [List.length_set], h2, setCells_at _ _ _ _ h3, by rw [List.length_set]; exact h4, h5, by rw [stl_size]; exact h6, ?_⟩, setCells_fr b _ _ _⟩
  · refine Go.run_storeAt_mid w b (o + k * K.sz) K.e (K.cs x).toArray (fun j hj => ?_) (by rw [hi1]; simp [hi3, hlen]) (Go.all_oneCell_toArray (fun v hv => K.one x v hv))
    have hj' : j < K.sz := by simpa [hlen] using hj
    refine ⟨?_, obj_frozen h3 _⟩
    rw [obj_cell h3]
    rw [Array.getElem?_eq_getElem (by omega)]
    rfl
  · rw [List.length_set]
    exact stl_seg h7 (by rw [hlen]; omega) (by omega) (fun t _ => by rw [EK.vset hk, hlen])
/-- v[k:], not to the end. -/
theorem EK.sg_tail {w : World} {B : Nat} {v : Value} {l : List α} (h : K.sg w B v l) {k : Nat} (hk : k < l.length) : ∃ v', (Instr.sliceAt K.t v (some (.int .i64 (k : Int))) none none).run P w = .ok v' w ∧ K.sg w B v' (l.drop k) ∧ v'.ownBlock = v.ownBlock := by
  obtain ⟨i0, z0, hi0, hz0, hz1, hz2, hz3⟩ := K.inf
  rcases h with ⟨_, rfl⟩ | ⟨b, o, c, cur, rfl, h2, h3, h4, h5, h6, h7⟩
  · simp at hk
  · have e1 : ¬ l.length < k := by omega
    have e2 : l.length ≤ c := h4
    have e3 : ¬ c = k := by omega
    refine ⟨.slice (some ⟨b, o + k * K.sz, none⟩) (l.length - k) (c - k), ?_, .inr ⟨b, o + k * K.sz, c - k, cur, by rw [List.length_drop], h2, h3, by rw [List.length_drop]; omega, by omega, ?_, fun t ht => ?_⟩, rfl⟩
    · have e4 : k ≤ l.length := by omega
      simp [Instr.sliceAt, Instr.slice, Instr.sliceBounds, Instr.sliceBound, asIntOf, run_underlying K.und, sizeOf, typeInfo, hi0, hz1, e3, e4, add_plain']
    · rw [h6, Nat.sub_mul]
      have : k * K.sz ≤ c * K.sz := Nat.mul_le_mul_right _ (by omega)
      omega
    · rw [List.length_drop, Nat.sub_mul] at ht
      rw [EK.vdrop (by omega), List.getElem?_drop, ← h7 _ (by omega), Nat.add_assoc]
/-- append: one element behind. -/
theorem EK.sg_app {w : World} {B : Nat} {v v2 : Value} {l : List α} {q : α} (h : K.sg w B v l) (h2 : K.rd w v2 [q]) (hl : l.length ≤ 1048576) (hB : B ≤ w.heap.size) (ty : TypeId) :
    ∃ v' w', (Builtin.append_ #[K.t, K.t] ty #[v, v2]).run P w = .ok v' w' ∧ K.sg w' B v' (l ++ [q]) ∧ Fr (fun j => v.ownBlock = some j) w w' ∧ (v'.ownBlock = v.ownBlock ∨ ∃ k, v'.ownBlock = some k ∧ w.heap.size ≤ k) := by
  have hsm := K.small
  rcases h with ⟨rfl, rfl⟩ | ⟨b, o, c, cur, rfl, hb, h3, h4, h5, h6, h7⟩
  · obtain ⟨v', w', a1, a2, a3, a4⟩ := EK.app (EK.row_nil (K := K) w B) h2 (by simp) hB ty
    refine ⟨v', w', a1, EK.row_sg a2, a3, ?_⟩
    rcases a4 with e | e
    · exact .inl e
    · exact .inr ⟨_, e, Nat.le_refl _⟩
  · obtain ⟨i0, z0, hi0, hz0, hz1, hz2, hz3⟩ := K.inf
    obtain ⟨a, c2, rfl, hc1, hc2, hs⟩ := h2
    rcases hs with ⟨rfl, rfl⟩ | ⟨ad, rfl, hs⟩
    · simp at hc1
    have hv1 : K.vals [q] = K.cs q := by simp [EK.vals]
    rw [hv1] at hs
    have hlen := K.len q
    by_cases hroom : l.length + 1 ≤ c
    · have hfit : (l.length + 1) * K.sz ≤ c * K.sz := Nat.mul_le_mul_right _ hroom
      rw [Nat.add_mul, Nat.one_mul] at hfit
      have hrun := run_append_room_cells (P := P) w K.t ty K.e i0 K.und hi0 b o l.length c ad 1 c2 (K.cs q) (by rw [hlen, hz1]; omega) hs (fun u hu => K.one q u hu) hroom
        (fun j hj => by
          rw [hlen] at hj
          rw [hz1, obj_cell h3, Array.getElem?_eq_getElem (by omega)]
          rfl) (fun j _ => obj_frozen h3 _)
      rw [hz1] at hrun
      refine ⟨_, _, hrun, .inr ⟨b, o, c, stl cur (o + l.length * K.sz) (K.cs q), by rw [List.length_append]; rfl, hb, setCells_at _ _ _ _ h3, by rw [List.length_append]; exact hroom, h5, by rw [stl_size]; exact h6, fun t ht => ?_⟩, (setCells_fr b _ _ _).mono (fun k _ e => by rw [e]; rfl), .inl rfl⟩
      rw [List.length_append, List.length_singleton, Nat.add_mul, Nat.one_mul] at ht
      rw [stl_get _ _ _ _ (by omega), EK.vapp, hv1]
      by_cases hc : o + l.length * K.sz ≤ o + t ∧ o + t < o + l.length * K.sz + (K.cs q).length
      · rw [if_pos hc, List.getElem?_append_right (by rw [EK.vlen]; omega), EK.vlen]
        congr 1
        omega
      · rw [if_neg hc, List.getElem?_append_left (by rw [EK.vlen]; omega)]
        exact h7 t (by omega)
    · have hold : ∀ j u, (K.vals l)[j]? = some u → w.cell? ((⟨b, o, none⟩ : Addr).add j) = some u := fun j u hu => by
        have hj : j < l.length * K.sz := by
          have := (List.getElem?_eq_some_iff.1 hu).1
          rwa [EK.vlen] at this
        rw [add_plain', obj_cell h3, h7 j hj, hu]
      obtain ⟨v', w', hrun, hown, hg⟩ := run_append_arg_grows (P := P) w K.t ty K.e i0 z0 K.sz K.by_ K.und hi0 hz0 hz1 hz2 hz3 K.pos ⟨b, o, none⟩ l.length c (K.vals l) (EK.vlen l) hold ad 1 c2 (K.cs q) (by rw [hlen]; omega) hs (by omega) (by simp only [maxLen]; omega) (by
        have : (l.length + 1) * K.by_ ≤ 1048577 * 4096 := Nat.mul_le_mul (by omega) hsm
        omega)
      have hrow : K.row w' w.heap.size v' (l ++ [q]) := by
        unfold EK.row
        rw [EK.vapp, hv1, List.length_append]
        exact hown
      refine ⟨v', w', hrun, EK.sg_base (EK.row_sg hrow) hB, (Fr.refl _ w).grown hg (fun k e => by cases e), ?_⟩
      rcases e : v'.ownBlock with _ | k
      · rcases hrow.2 with ⟨e2, h0⟩ | ⟨g, cap, cur', e2, -⟩
        · simp at h0
        · rw [e2] at e
          cases e
      · exact .inr ⟨k, rfl, (EK.row_typed hrow e).1⟩
end
end Go.Proofs.Ythcnoamgkkbkcaa
