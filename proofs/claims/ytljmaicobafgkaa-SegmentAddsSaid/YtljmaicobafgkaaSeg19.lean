/- Chapter 31, segment: rows of pieces; what an Add leaves as it was. -/
import Derived.Test.YtljmaicobafgkaaSeg17
namespace Go.Proofs.Ytljmaicobafgkaa
open Go.RowKit

def Pc.cells (x : Pc) : List Value := [.int .i64 x.kind, .int .i64 x.inode, .int .i64 x.block, .string x.body]
def pcVals (l : List Pc) : List Value := l.flatMap Pc.cells
theorem pcVals_len (l : List Pc) : (pcVals l).length = l.length * 4 := by
  induction l with
  | nil => rfl
  | cons e l ih => simp only [pcVals, List.flatMap_cons, List.length_append] at ih ⊢; rw [ih]; simp [Pc.cells]; omega
/-- A row of pieces with their bodies, of the call's own. -/
def OwP (w : World) (B : Nat) (v : Value) (l : List Pc) : Prop := w.ownsRow B 93 4 v l.length (pcVals l)
theorem pc_cells {w : World} {B : Nat} {v : Value} {l : List Pc} (h : OwP w B v l) {k : Nat} (hk : k < l.length) :
    ∃ g c, v = .slice (some ⟨g, 0, none⟩) l.length c ∧ B ≤ g ∧ g < w.heap.size ∧ l.length ≤ c ∧ ∀ j, j < 4 → w.cell? ⟨g, k * 4 + j, none⟩ = (l[k].cells)[j]? := by
  rcases h.2 with ⟨rfl, h0⟩ | ⟨g, cap, cur, rfl, hb, hh, hn, hm, hc, ht⟩
  · omega
  · refine ⟨g, cap, rfl, hb, obj_lt hh, hn, fun j hj => ?_⟩
    rw [obj_cell hh]
    have e1 : (pcVals l)[k * 4 + j]? = (l[k].cells)[j]? := by
      have gen : ∀ (l : List Pc) (k : Nat) (hk : k < l.length), (pcVals l)[k * 4 + j]? = (l[k].cells)[j]? := by
        intro l
        induction l with
        | nil => intro k hk; simp at hk
        | cons e l ih =>
          intro k hk
          rcases k with _ | k
          · simp only [pcVals, List.flatMap_cons, Nat.zero_mul, Nat.zero_add, List.getElem_cons_zero]
            rw [List.getElem?_append_left (by simp [Pc.cells]; omega)]
          · have := ih k (by simpa using hk)
            simp only [pcVals, List.flatMap_cons, List.getElem_cons_succ] at this ⊢
            rw [← this, List.getElem?_append_right (by simp [Pc.cells]; omega)]
            congr 1
            simp [Pc.cells]
            omega
      exact gen l k hk
    rw [← e1, ← ht, List.getElem?_take, if_pos (by omega), Array.getElem?_toList]
theorem info93 : (Try.prog.info? 93).map (fun i => (i.zero, i.size, i.bytes)) = some (some (.agg #[.int .i64 0, .int .i64 0, .int .i64 0, .string ⟨#[]⟩]), 4, 40) := by kernel_rfl
theorem info93_parts : ∃ i, Try.prog.info? 93 = some i ∧ i.zero = some (.agg #[.int .i64 0, .int .i64 0, .int .i64 0, .string ⟨#[]⟩]) ∧ i.size = 4 ∧ i.bytes = 40 := by
  have h := info93
  rcases e : Try.prog.info? 93 with _ | i
  · rw [e] at h
    cases h
  · rw [e] at h
    simp only [Option.map_some, Option.some.injEq, Prod.mk.injEq] at h
    exact ⟨i, rfl, h.1, h.2.1, h.2.2⟩
/-- One piece onto a row of the call's own. -/
theorem app_pc {w : World} {B : Nat} {v : Value} {l : List Pc} (h : OwP w B v l) (e : Pc) {g' : Nat} (hg : w.heap[g']? = some (.cells e.cells.toArray 93 (0, 0))) (hl : l.length ≤ 1048576) (hB : B ≤ w.heap.size) (ty : TypeId) :
    ∃ v' w', (Builtin.append_ #[80, 80] ty #[v, .slice (some ⟨g', 0, none⟩) 1 1]).run Try.prog w = .ok v' w' ∧ OwP w' B v' (l ++ [e]) ∧ Fr (fun k => v.ownBlock = some k) w w' ∧ (v'.ownBlock = v.ownBlock ∨ v'.ownBlock = some w.heap.size) := by
  obtain ⟨i0, hi0, hz0, hz1, hz2⟩ := info93_parts
  obtain ⟨v', w', hrun, hown, hgr, _, hown2⟩ := run_append_own_at (P := Try.prog) w B 80 ty 93 i0 _ 4 40 Try.underlying80 hi0 hz0 hz1 hz2 rfl (by decide) v l.length (pcVals l) h ⟨g', 0, none⟩ 1 1 e.cells rfl
    (fun j u hu => by rw [add_plain', Nat.zero_add, obj_cell hg, ← hu]; simp) (by simp [Pc.cells, Value.oneCell']) (by simp only [maxLen]; omega) (by omega) hB
  refine ⟨v', w', hrun, ?_, (Fr.refl _ w).grown hgr (fun k hk _ => hk), hown2⟩
  unfold OwP
  rw [List.length_append, show pcVals (l ++ [e]) = pcVals l ++ e.cells from by simp [pcVals]]
  exact hown
/-- A segment stays a segment, if neither its block nor its rows are turned. -/
theorem Sg.far {F : Nat → Prop} {w w' : World} {g : Nat} {size : Int} {t : List UInt8} {l : List Ent} {lv : Value} (h : Sg w g size t l lv) (hf : Fr F w w') (h1 : ∀ k, F k → ∃ cs T f, w.heap[k]? = some (.cells cs T f) ∧ T ≠ 199 ∧ T ≠ 5 ∧ (T = 89 → lv.ownBlock ≠ some k)) : Sg w' g size t l lv := by
  obtain ⟨bv, hh, hb, he⟩ := h
  refine ⟨bv, hf.obj hh (fun hF => ?_), row_fr hb hf (fun k hk hF => ?_), row_fr he hf (fun k hk hF => ?_)⟩
  · obtain ⟨cs, T, f, ho, h199, _, _⟩ := h1 _ hF
    rw [hh] at ho
    cases ho
    exact h199 rfl
  · obtain ⟨cs, T, f, ho, _, h5, _⟩ := h1 _ hF
    obtain ⟨_, cs', hk'⟩ := row_typed hb hk
    rw [hk'] at ho
    cases ho
    exact h5 rfl
  · obtain ⟨cs, T, f, ho, _, _, h89⟩ := h1 _ hF
    obtain ⟨_, cs', hk'⟩ := row_typed he hk
    rw [hk'] at ho
    cases ho
    exact h89 rfl hk
/-- What an Add does not turn. -/
theorem sgF_no {w : World} {g : Nat} {size : Int} {t : List UInt8} {l : List Ent} {lv : Value} (h : Sg w g size t l lv) {k : Nat} {cs : Array Value} {T : TypeId} {f : Nat × Nat} (hk : w.heap[k]? = some (.cells cs T f)) (h1 : T ≠ 199) (h2 : T ≠ 5) (h3 : lv.ownBlock ≠ some k) : ¬ sgF w g lv k := by
  obtain ⟨bv, hh, _, _⟩ := h
  rintro (rfl | h4 | ⟨_, cs', f', h5⟩)
  · rw [hh] at hk
    cases hk
    exact h1 rfl
  · exact h3 h4
  · rw [h5] at hk
    cases hk
    exact h2 rfl
theorem sg_own {w : World} {g : Nat} {size : Int} {t : List UInt8} {l : List Ent} {lv : Value} (h : Sg w g size t l lv) {k : Nat} (hk : lv.ownBlock = some k) : ∃ cs, w.heap[k]? = some (.cells cs 89 (0, 0)) := by
  obtain ⟨bv, _, _, he⟩ := h
  exact (row_typed he hk).2
end Go.Proofs.Ytljmaicobafgkaa
