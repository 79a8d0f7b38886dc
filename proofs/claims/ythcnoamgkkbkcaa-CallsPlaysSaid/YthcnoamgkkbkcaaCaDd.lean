/- Chapter 14, calls: a message, a deed, and a slice of deeds, as a row hands them. -/
import Derived.Test.YthcnoamgkkbkcaaCaW
import Derived.Lib.SmallJoins
import Derived.Deep.Slices
import Derived.Deep.Fields
import Derived.ChangeSame
namespace Go.Proofs.Ythcnoamgkkbkcaa
open Go.Joins Go.ChangeShapes Go.WideShapes Go.RowKit Go.Deep

def Mg.lst (d : Mg) : List Value := [.int .i64 d.kind, .int .i64 d.frm, .int .i64 d.dst, .int .i64 d.id, .string d.body]
def Mg.wf (d : Mg) : Prop := (Lit.int .i64 d.kind).wf = true ∧ (Lit.int .i64 d.frm).wf = true ∧ (Lit.int .i64 d.dst).wf = true ∧ (Lit.int .i64 d.id).wf = true ∧ d.body.size ≤ maxLen
set_option maxRecDepth 100000 in
theorem trod_mg {H : Type} {enc : TypeId × Value → H} {w : World} {base : Nat} {spare : Nat → Bool} {held : Bool} {fuel : Nat} {cs : List Value} {x : DataW H × List MemPlace} (h : DataW.trod enc Try.prog w base spare held fuel 32 cs = some x) :
    ∃ d : Mg, cs = d.lst ∧ d.wf := by
  obtain ⟨xs, n, _, _, hlen, hxl, hf⟩ := DataW.trod_struct Try.underlying32 h
  rw [show Try.prog.cellsOf 32 = 5 from by kernel_rfl] at hlen
  match cs, hlen with
  | [c0, c1, c2, c3, c4], _ =>
    match xs, hxl with
    | [y0, y1, y2, y3, y4], _ =>
      have ec3 : Try.prog.cellsOf 3 = 1 := by kernel_rfl
      have ec9 : Try.prog.cellsOf 9 = 1 := by kernel_rfl
      have h0 := hf 0 _ rfl
      have h1 := hf 1 _ rfl
      have h2 := hf 2 _ rfl
      have h3 := hf 3 _ rfl
      have h4 := hf 4 _ rfl
      simp only [List.getElem_toArray, List.getElem_cons_succ, List.getElem_cons_zero, ec3, ec9, List.drop_zero, List.drop_succ_cons, List.take_succ_cons, List.take_zero, List.getElem?_cons_zero, List.getElem?_cons_succ] at h0 h1 h2 h3 h4
      obtain ⟨a0, e0, _, w0⟩ := DataW.trod_int (k := .i64) (by kernel_rfl) h0
      obtain ⟨a1, e1, _, w1⟩ := DataW.trod_int (k := .i64) (by kernel_rfl) h1
      obtain ⟨a2, e2, _, w2⟩ := DataW.trod_int (k := .i64) (by kernel_rfl) h2
      obtain ⟨a3, e3, _, w3⟩ := DataW.trod_int (k := .i64) (by kernel_rfl) h3
      obtain ⟨a4, e4, _, w4⟩ := DataW.trod_string (by kernel_rfl) h4
      simp only [List.cons.injEq, and_true] at e0 e1 e2 e3 e4
      subst e0 e1 e2 e3 e4
      exact ⟨⟨a0, a1, a2, a3, a4⟩, rfl, ⟨w0, w1, w2, w3, w4⟩⟩
set_option maxRecDepth 100000 in
theorem open_mg {H : Type} {enc : TypeId × Value → H} {w : World} {base : Nat} {spare : Nat → Bool} {held : Bool} {r : Reach} {b0 : Nat} {v : Value} {d : DataW H} {p : List MemPlace} (hv : Value.okWide Try.prog w r b0 32 v) (h : DataW.Trod enc Try.prog w base spare held 32 v d p) :
    ∃ x : Mg, v = .agg x.lst.toArray ∧ x.wf := by
  obtain ⟨cs, rfl, _⟩ := okWide_struct Try.underlying32 hv
  obtain ⟨fuel, hf⟩ := h
  obtain ⟨x, hx, hw⟩ := trod_mg hf
  refine ⟨x, ?_, hw⟩
  rw [← hx]
  simp [Value.cells]
structure CDeed where
  kind : Int
  a : Int
  b : Int
  body : ByteArray
  m : Mg
def CDeed.lst (d : CDeed) : List Value := [.int .i64 d.kind, .int .i64 d.a, .int .i64 d.b, .string d.body, .int .i64 d.m.kind, .int .i64 d.m.frm, .int .i64 d.m.dst, .int .i64 d.m.id, .string d.m.body]
def CDeed.wf (d : CDeed) : Prop := (Lit.int .i64 d.kind).wf = true ∧ (Lit.int .i64 d.a).wf = true ∧ (Lit.int .i64 d.b).wf = true ∧ d.body.size ≤ maxLen ∧ (Lit.int .i64 d.m.kind).wf = true ∧ (Lit.int .i64 d.m.frm).wf = true ∧ (Lit.int .i64 d.m.dst).wf = true ∧ (Lit.int .i64 d.m.id).wf = true ∧ d.m.body.size ≤ maxLen
set_option maxRecDepth 100000 in
theorem trod_cDeed {H : Type} {enc : TypeId × Value → H} {w : World} {base : Nat} {spare : Nat → Bool} {held : Bool} {fuel : Nat} {cs : List Value} {x : DataW H × List MemPlace} (h : DataW.trod enc Try.prog w base spare held fuel 34 cs = some x) :
    ∃ d : CDeed, cs = d.lst ∧ d.wf := by
  obtain ⟨xs, n, _, _, hlen, hxl, hf⟩ := DataW.trod_struct Try.underlying34 h
  rw [show Try.prog.cellsOf 34 = 9 from by kernel_rfl] at hlen
  match cs, hlen with
  | [c0, c1, c2, c3, c4, c5, c6, c7, c8], _ =>
    match xs, hxl with
    | [y0, y1, y2, y3, y4], _ =>
      have ec3 : Try.prog.cellsOf 3 = 1 := by kernel_rfl
      have ec9 : Try.prog.cellsOf 9 = 1 := by kernel_rfl
      have ec32 : Try.prog.cellsOf 32 = 5 := by kernel_rfl
      have h0 := hf 0 _ rfl
      have h1 := hf 1 _ rfl
      have h2 := hf 2 _ rfl
      have h3 := hf 3 _ rfl
      have h4 := hf 4 _ rfl
      simp only [List.getElem_toArray, List.getElem_cons_succ, List.getElem_cons_zero, ec3, ec9, ec32, List.drop_zero, List.drop_succ_cons, List.take_succ_cons, List.take_zero, List.getElem?_cons_zero, List.getElem?_cons_succ] at h0 h1 h2 h3 h4
      obtain ⟨a0, e0, _, w0⟩ := DataW.trod_int (k := .i64) (by kernel_rfl) h0
      obtain ⟨a1, e1, _, w1⟩ := DataW.trod_int (k := .i64) (by kernel_rfl) h1
      obtain ⟨a2, e2, _, w2⟩ := DataW.trod_int (k := .i64) (by kernel_rfl) h2
      obtain ⟨a3, e3, _, w3⟩ := DataW.trod_string (by kernel_rfl) h3
      obtain ⟨a4, e4, w4⟩ := trod_mg h4
      simp only [Mg.lst, List.cons.injEq, and_true] at e0 e1 e2 e3 e4
      obtain ⟨s4_0, s4_1, s4_2, s4_3, s4_4⟩ := e4
      subst e0 e1 e2 e3 s4_0 s4_1 s4_2 s4_3 s4_4
      exact ⟨⟨a0, a1, a2, a3, a4⟩, rfl, ⟨w0, w1, w2, w3, w4.1, w4.2.1, w4.2.2.1, w4.2.2.2.1, w4.2.2.2.2⟩⟩
set_option maxRecDepth 100000 in
theorem open_cDeed {H : Type} {enc : TypeId × Value → H} {w : World} {base : Nat} {spare : Nat → Bool} {held : Bool} {r : Reach} {b0 : Nat} {v : Value} {d : DataW H} {p : List MemPlace} (hv : Value.okWide Try.prog w r b0 34 v) (h : DataW.Trod enc Try.prog w base spare held 34 v d p) :
    ∃ x : CDeed, v = .agg x.lst.toArray ∧ x.wf := by
  obtain ⟨cs, rfl, _⟩ := okWide_struct Try.underlying34 hv
  obtain ⟨fuel, hf⟩ := h
  obtain ⟨x, hx, hw⟩ := trod_cDeed hf
  refine ⟨x, ?_, hw⟩
  rw [← hx]
  simp [Value.cells]
/-- The argument v reads as the list l. -/
def CDeedArg (w : World) (v : Value) (l : List CDeed) : Prop :=
  (v = .slice none 0 0 ∧ l = []) ∨ ∃ (a : Addr) (cap : Nat), v = .slice (some a) l.length cap ∧ l.length ≤ cap ∧ cap ≤ maxLen ∧
    ∀ i (hi : i < l.length), ∀ (j : Nat) (u : Value), l[i].lst[j]? = some u → w.cell? (a.add (i * 9 + j)) = some u
theorem list_ofCDeed {α : Type} {q : Nat → α → Prop} : ∀ (n : Nat), (∀ i, i < n → ∃ x, q i x) → ∃ l : List α, l.length = n ∧ ∀ i (hi : i < l.length), q i l[i]
  | 0, _ => ⟨[], rfl, fun i hi => by simp at hi⟩
  | n + 1, h => by
    obtain ⟨l, hl, hq⟩ := list_ofCDeed n (fun i hi => h i (by omega))
    obtain ⟨x, hx⟩ := h n (by omega)
    refine ⟨l ++ [x], by simp [hl], fun i hi => ?_⟩
    rcases Nat.lt_or_ge i l.length with h1 | h1
    · rw [List.getElem_append_left h1]
      exact hq i h1
    · obtain rfl : i = l.length := by simp at hi; omega
      simp only [List.getElem_concat_length]
      rw [hl]
      exact hx
set_option maxRecDepth 100000 in
theorem open_cDeeds {H : Type} {enc : TypeId × Value → H} {w : World} {base : Nat} {spare : Nat → Bool} {held : Bool} {r : Reach} {b0 : Nat} {v : Value} {d : DataW H} {p : List MemPlace}
    (hv : Value.okWide Try.prog w r b0 22 v) (h : DataW.Trod enc Try.prog w base spare held 22 v d p) :
    ∃ l : List CDeed, CDeedArg w v l ∧ ∀ x ∈ l, x.wf := by
  obtain ⟨A, n0, c0, rfl⟩ := okWide_slice Try.underlying22 hv
  obtain ⟨fuel, hf⟩ := h
  rcases open_slice Try.underlying22 hf with ⟨hcs, hx⟩ | ⟨a, len, cap, m, n, D, Pl, hcs, hb, hl, hm, hmm, hx, hi⟩
  · simp only [Value.cells, List.cons.injEq, Value.slice.injEq, and_true] at hcs
    exact ⟨[], .inl ⟨by rw [hcs.1, hcs.2.1, hcs.2.2], rfl⟩, fun x hx => by simp at hx⟩
  · simp only [Value.cells, List.cons.injEq, Value.slice.injEq, and_true] at hcs
    obtain ⟨rfl, rfl, rfl⟩ := hcs
    have hlm : n0 ≤ m := by rw [hmm]; split <;> omega
    rw [show Try.prog.cellsOf 34 = 9 from by kernel_rfl] at hi
    obtain ⟨l, hll, hq⟩ := list_ofCDeed (α := CDeed) (q := fun i x => x.wf ∧ ∀ (j : Nat) (u : Value), x.lst[j]? = some u → w.cell? (a.add (i * 9 + j)) = some u) n0 (fun i hil => by
      obtain ⟨cs', hc, ht⟩ := hi i (by omega)
      obtain ⟨x, rfl, hw⟩ := trod_cDeed ht
      obtain ⟨_, hcl, hat⟩ := World.cells?_some hc
      refine ⟨x, hw, fun j u hu => ?_⟩
      have hj : j < 9 := (List.getElem?_eq_some_iff.1 hu).1
      have h1 := hat j hj
      rw [Go.Deep.add_add] at h1
      exact h1.trans hu)
    subst hll
    refine ⟨l, .inr ⟨a, c0, rfl, hl, hm, fun i hi => (hq i hi).2⟩, fun x hx => ?_⟩
    obtain ⟨i, hi, rfl⟩ := List.getElem_of_mem hx
    exact (hq i hi).1
theorem CDeedArg.below {w w' : World} {v : Value} {l : List CDeed} (h : CDeedArg w v l) (hb : Below w.heap.size w w') : CDeedArg w' v l := by
  rcases h with h | ⟨a, cap, rfl, h1, h2, h3⟩
  · exact .inl h
  · exact .inr ⟨a, cap, rfl, h1, h2, fun i hi j u hu => (hb.cell (World.block_lt_of_cell? _ _ (h3 i hi j u hu))).trans (h3 i hi j u hu)⟩
theorem CDeedArg.slice {w : World} {v : Value} {l : List CDeed} (h : CDeedArg w v l) : ∃ A c, v = .slice A l.length c := by
  rcases h with ⟨rfl, rfl⟩ | ⟨a, cap, rfl, _⟩
  · exact ⟨none, 0, rfl⟩
  · exact ⟨some a, cap, rfl⟩
theorem CDeedArg.len {w : World} {v : Value} {l : List CDeed} (h : CDeedArg w v l) : l.length ≤ maxLen := by
  rcases h with ⟨rfl, rfl⟩ | ⟨a, cap, rfl, h1, h2, h3⟩
  · simp
  · omega
theorem add_fldCDeed (a : Addr) (n j : Nat) (hj : 0 < j) : a.add (n + j) = ⟨(a.add n).block, (a.add n).off + j, none⟩ := by
  rw [← Go.Deep.add_add]
  generalize a.add n = b
  unfold Addr.add
  rw [if_neg (by omega)]
theorem CDeedArg.cells {w : World} {v : Value} {l : List CDeed} (h : CDeedArg w v l) {k : Nat} (hk : k < l.length) : ∃ a cap, v = .slice (some a) l.length cap ∧ l.length ≤ cap ∧ cap ≤ maxLen ∧
    w.cell? (a.add (k * 9)) = some (.int .i64 l[k].kind) ∧
    w.cell? ⟨(a.add (k * 9)).block, (a.add (k * 9)).off + 1, none⟩ = some (.int .i64 l[k].a) ∧
    w.cell? ⟨(a.add (k * 9)).block, (a.add (k * 9)).off + 2, none⟩ = some (.int .i64 l[k].b) ∧
    w.cell? ⟨(a.add (k * 9)).block, (a.add (k * 9)).off + 3, none⟩ = some (.string l[k].body) ∧
    w.cell? ⟨(a.add (k * 9)).block, (a.add (k * 9)).off + 4, none⟩ = some (.int .i64 l[k].m.kind) ∧
    w.cell? ⟨(a.add (k * 9)).block, (a.add (k * 9)).off + 5, none⟩ = some (.int .i64 l[k].m.frm) ∧
    w.cell? ⟨(a.add (k * 9)).block, (a.add (k * 9)).off + 6, none⟩ = some (.int .i64 l[k].m.dst) ∧
    w.cell? ⟨(a.add (k * 9)).block, (a.add (k * 9)).off + 7, none⟩ = some (.int .i64 l[k].m.id) ∧
    w.cell? ⟨(a.add (k * 9)).block, (a.add (k * 9)).off + 8, none⟩ = some (.string l[k].m.body) := by
  rcases h with ⟨rfl, rfl⟩ | ⟨a, cap, rfl, h1, h2, h3⟩
  · simp at hk
  · have h := h3 k hk
    refine ⟨a, cap, rfl, h1, h2, by have := h 0 _ rfl; rwa [Nat.add_zero] at this, ?_, ?_, ?_, ?_, ?_, ?_, ?_, ?_⟩
    · have := h 1 _ rfl
      rwa [add_fldCDeed _ _ _ (by decide)] at this
    · have := h 2 _ rfl
      rwa [add_fldCDeed _ _ _ (by decide)] at this
    · have := h 3 _ rfl
      rwa [add_fldCDeed _ _ _ (by decide)] at this
    · have := h 4 _ rfl
      rwa [add_fldCDeed _ _ _ (by decide)] at this
    · have := h 5 _ rfl
      rwa [add_fldCDeed _ _ _ (by decide)] at this
    · have := h 6 _ rfl
      rwa [add_fldCDeed _ _ _ (by decide)] at this
    · have := h 7 _ rfl
      rwa [add_fldCDeed _ _ _ (by decide)] at this
    · have := h 8 _ rfl
      rwa [add_fldCDeed _ _ _ (by decide)] at this
end Go.Proofs.Ythcnoamgkkbkcaa
