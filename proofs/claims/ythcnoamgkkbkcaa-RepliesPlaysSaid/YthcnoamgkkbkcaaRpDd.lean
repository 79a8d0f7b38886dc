/- Chapter 15, replies: a deed, and a slice of deeds, as a row hands them. -/
import Derived.Test.YthcnoamgkkbkcaaRpW
import Derived.Lib.SmallJoins
import Derived.Deep.Slices
import Derived.Deep.Fields
import Derived.ChangeSame
namespace Go.Proofs.Ythcnoamgkkbkcaa
open Go.Joins Go.ChangeShapes Go.WideShapes Go.RowKit Go.Deep

structure RDeed where
  kind : Int
  cl : Int
  id : Int
  rep : ByteArray
def RDeed.lst (d : RDeed) : List Value := [.int .i64 d.kind, .int .i64 d.cl, .int .i64 d.id, .string d.rep]
def RDeed.wf (d : RDeed) : Prop := (Lit.int .i64 d.kind).wf = true ∧ (Lit.int .i64 d.cl).wf = true ∧ (Lit.int .i64 d.id).wf = true ∧ d.rep.size ≤ maxLen
set_option maxRecDepth 100000 in
theorem trod_rDeed {H : Type} {enc : TypeId × Value → H} {w : World} {base : Nat} {spare : Nat → Bool} {held : Bool} {fuel : Nat} {cs : List Value} {x : DataW H × List MemPlace} (h : DataW.trod enc Try.prog w base spare held fuel 71 cs = some x) :
    ∃ d : RDeed, cs = d.lst ∧ d.wf := by
  obtain ⟨xs, n, _, _, hlen, hxl, hf⟩ := DataW.trod_struct Try.underlying71 h
  rw [show Try.prog.cellsOf 71 = 4 from by kernel_rfl] at hlen
  match cs, hlen with
  | [c0, c1, c2, c3], _ =>
    match xs, hxl with
    | [y0, y1, y2, y3], _ =>
      have ec3 : Try.prog.cellsOf 3 = 1 := by kernel_rfl
      have ec9 : Try.prog.cellsOf 9 = 1 := by kernel_rfl
      have h0 := hf 0 _ rfl
      have h1 := hf 1 _ rfl
      have h2 := hf 2 _ rfl
      have h3 := hf 3 _ rfl
      simp only [List.getElem_toArray, List.getElem_cons_succ, List.getElem_cons_zero, ec3, ec9, List.drop_zero, List.drop_succ_cons, List.take_succ_cons, List.take_zero, List.getElem?_cons_zero, List.getElem?_cons_succ] at h0 h1 h2 h3
      obtain ⟨a0, e0, _, w0⟩ := DataW.trod_int (k := .i64) (by kernel_rfl) h0
      obtain ⟨a1, e1, _, w1⟩ := DataW.trod_int (k := .i64) (by kernel_rfl) h1
      obtain ⟨a2, e2, _, w2⟩ := DataW.trod_int (k := .i64) (by kernel_rfl) h2
      obtain ⟨a3, e3, _, w3⟩ := DataW.trod_string (by kernel_rfl) h3
      simp only [List.cons.injEq, and_true] at e0 e1 e2 e3
      subst e0 e1 e2 e3
      exact ⟨⟨a0, a1, a2, a3⟩, rfl, ⟨w0, w1, w2, w3⟩⟩
set_option maxRecDepth 100000 in
theorem open_rDeed {H : Type} {enc : TypeId × Value → H} {w : World} {base : Nat} {spare : Nat → Bool} {held : Bool} {r : Reach} {b0 : Nat} {v : Value} {d : DataW H} {p : List MemPlace} (hv : Value.okWide Try.prog w r b0 71 v) (h : DataW.Trod enc Try.prog w base spare held 71 v d p) :
    ∃ x : RDeed, v = .agg x.lst.toArray ∧ x.wf := by
  obtain ⟨cs, rfl, _⟩ := okWide_struct Try.underlying71 hv
  obtain ⟨fuel, hf⟩ := h
  obtain ⟨x, hx, hw⟩ := trod_rDeed hf
  refine ⟨x, ?_, hw⟩
  rw [← hx]
  simp [Value.cells]
/-- The argument v reads as the list l. -/
def RDeedArg (w : World) (v : Value) (l : List RDeed) : Prop :=
  (v = .slice none 0 0 ∧ l = []) ∨ ∃ (a : Addr) (cap : Nat), v = .slice (some a) l.length cap ∧ l.length ≤ cap ∧ cap ≤ maxLen ∧
    ∀ i (hi : i < l.length), ∀ (j : Nat) (u : Value), l[i].lst[j]? = some u → w.cell? (a.add (i * 4 + j)) = some u
theorem list_ofRDeed {α : Type} {q : Nat → α → Prop} : ∀ (n : Nat), (∀ i, i < n → ∃ x, q i x) → ∃ l : List α, l.length = n ∧ ∀ i (hi : i < l.length), q i l[i]
  | 0, _ => ⟨[], rfl, fun i hi => by simp at hi⟩
  | n + 1, h => by
    obtain ⟨l, hl, hq⟩ := list_ofRDeed n (fun i hi => h i (by omega))
    obtain ⟨x, hx⟩ := h n (by omega)
    refine ⟨l ++ [x], by simp [hl], fun i hi => ?_⟩
    rcases Nat.lt_or_ge i l.length with h1 | h1
    · rw [List.getElem_append_left h1]
      exact hq i h1
    · obtain rfl : i = l.length := by simp at hi; omega
      simp only [List.getElem_concat_length]
      rw [hl]
      exact hx
set_option maxRecDepth 100000 in
theorem open_rDeeds {H : Type} {enc : TypeId × Value → H} {w : World} {base : Nat} {spare : Nat → Bool} {held : Bool} {r : Reach} {b0 : Nat} {v : Value} {d : DataW H} {p : List MemPlace}
    (hv : Value.okWide Try.prog w r b0 61 v) (h : DataW.Trod enc Try.prog w base spare held 61 v d p) :
    ∃ l : List RDeed, RDeedArg w v l ∧ ∀ x ∈ l, x.wf := by
  obtain ⟨A, n0, c0, rfl⟩ := okWide_slice Try.underlying61 hv
  obtain ⟨fuel, hf⟩ := h
  rcases open_slice Try.underlying61 hf with ⟨hcs, hx⟩ | ⟨a, len, cap, m, n, D, Pl, hcs, hb, hl, hm, hmm, hx, hi⟩
  · simp only [Value.cells, List.cons.injEq, Value.slice.injEq, and_true] at hcs
    exact ⟨[], .inl ⟨by rw [hcs.1, hcs.2.1, hcs.2.2], rfl⟩, fun x hx => by simp at hx⟩
  · simp only [Value.cells, List.cons.injEq, Value.slice.injEq, and_true] at hcs
    obtain ⟨rfl, rfl, rfl⟩ := hcs
    have hlm : n0 ≤ m := by rw [hmm]; split <;> omega
    rw [show Try.prog.cellsOf 71 = 4 from by kernel_rfl] at hi
    obtain ⟨l, hll, hq⟩ := list_ofRDeed (α := RDeed) (q := fun i x => x.wf ∧ ∀ (j : Nat) (u : Value), x.lst[j]? = some u → w.cell? (a.add (i * 4 + j)) = some u) n0 (fun i hil => by
      obtain ⟨cs', hc, ht⟩ := hi i (by omega)
      obtain ⟨x, rfl, hw⟩ := trod_rDeed ht
      obtain ⟨_, hcl, hat⟩ := World.cells?_some hc
      refine ⟨x, hw, fun j u hu => ?_⟩
      have hj : j < 4 := (List.getElem?_eq_some_iff.1 hu).1
      have h1 := hat j hj
      rw [Go.Deep.add_add] at h1
      exact h1.trans hu)
    subst hll
    refine ⟨l, .inr ⟨a, c0, rfl, hl, hm, fun i hi => (hq i hi).2⟩, fun x hx => ?_⟩
    obtain ⟨i, hi, rfl⟩ := List.getElem_of_mem hx
    exact (hq i hi).1
theorem RDeedArg.below {w w' : World} {v : Value} {l : List RDeed} (h : RDeedArg w v l) (hb : Below w.heap.size w w') : RDeedArg w' v l := by
  rcases h with h | ⟨a, cap, rfl, h1, h2, h3⟩
  · exact .inl h
  · exact .inr ⟨a, cap, rfl, h1, h2, fun i hi j u hu => (hb.cell (World.block_lt_of_cell? _ _ (h3 i hi j u hu))).trans (h3 i hi j u hu)⟩
theorem RDeedArg.slice {w : World} {v : Value} {l : List RDeed} (h : RDeedArg w v l) : ∃ A c, v = .slice A l.length c := by
  rcases h with ⟨rfl, rfl⟩ | ⟨a, cap, rfl, _⟩
  · exact ⟨none, 0, rfl⟩
  · exact ⟨some a, cap, rfl⟩
theorem RDeedArg.len {w : World} {v : Value} {l : List RDeed} (h : RDeedArg w v l) : l.length ≤ maxLen := by
  rcases h with ⟨rfl, rfl⟩ | ⟨a, cap, rfl, h1, h2, h3⟩
  · simp
  · omega
theorem add_fldRDeed (a : Addr) (n j : Nat) (hj : 0 < j) : a.add (n + j) = ⟨(a.add n).block, (a.add n).off + j, none⟩ := by
  rw [← Go.Deep.add_add]
  generalize a.add n = b
  unfold Addr.add
  rw [if_neg (by omega)]
theorem RDeedArg.cells {w : World} {v : Value} {l : List RDeed} (h : RDeedArg w v l) {k : Nat} (hk : k < l.length) : ∃ a cap, v = .slice (some a) l.length cap ∧ l.length ≤ cap ∧ cap ≤ maxLen ∧
    w.cell? (a.add (k * 4)) = some (.int .i64 l[k].kind) ∧
    w.cell? ⟨(a.add (k * 4)).block, (a.add (k * 4)).off + 1, none⟩ = some (.int .i64 l[k].cl) ∧
    w.cell? ⟨(a.add (k * 4)).block, (a.add (k * 4)).off + 2, none⟩ = some (.int .i64 l[k].id) ∧
    w.cell? ⟨(a.add (k * 4)).block, (a.add (k * 4)).off + 3, none⟩ = some (.string l[k].rep) := by
  rcases h with ⟨rfl, rfl⟩ | ⟨a, cap, rfl, h1, h2, h3⟩
  · simp at hk
  · have h := h3 k hk
    refine ⟨a, cap, rfl, h1, h2, by have := h 0 _ rfl; rwa [Nat.add_zero] at this, ?_, ?_, ?_⟩
    · have := h 1 _ rfl
      rwa [add_fldRDeed _ _ _ (by decide)] at this
    · have := h 2 _ rfl
      rwa [add_fldRDeed _ _ _ (by decide)] at this
    · have := h 3 _ rfl
      rwa [add_fldRDeed _ _ _ (by decide)] at this
end Go.Proofs.Ythcnoamgkkbkcaa
