/- A join of 5 texts of this claim: Base, Ord, Bytes, App, Zig. Conditions: none of their own. -/
import Derived.Test.YtljmaicobafgkaaProg
import Derived.Below
import Derived.Deep.Draws
import Derived.Deep.AppendLies
import Derived.Maps.AppendAt
import Derived.OwnWalk
import Derived.Laws.BytesArg
import Derived.Laws.MakeOwn
import Derived.Laws.OwnMore
import Derived.Deep.OwnRows
import Derived.Tactics
import Derived.Tactics2
import Derived.Lib.ConvBytes
import Derived.Laws.Slices
import Derived.WalkKit
import Derived.KernelRfl
import Derived.RowKit3
import Derived.Deep.LoopGhost
import Derived.Deep.QuietTactic
import Derived.BigQuiet
import Derived.WideLaws
import Derived.Deep.DeepCutAuto
import Derived.Deep.CutBlock
import Derived.Deep.RegionHeld3
import Derived.Laws.Rows
import Derived.Lib.AppendStr
import Derived.ArgAppend
import Derived.Laws.IdiomCopy
import Derived.OrdersHeld
import Derived.Laws.BitsLemmas
import Derived.RowKit
import Derived.Outline
import Derived.WalkLawsBesides
import Derived.StillTailTactics
import Derived.ScopeJumps
import Derived.Lib.Hide
import Derived.ShutString
import Derived.RegionTactic
import Derived.Laws.IdiomStrings
import Derived.Laws.BitsAllLaws
section
/- Base words of this seat: what a call may have turned in memory (Fr), and the imports that all texts share. No statement of its own. -/
namespace Go.Proofs.Ytljmaicobafgkaa
open Go.RowKit

/-- What was there, but for the blocks of F, is as it was; the streams are as they were. -/
structure Fr (F : Nat → Prop) (w w' : World) : Prop where
  os : w'.os = w.os
  tape : w'.tape = w.tape
  output : w'.output = w.output
  size : w.heap.size ≤ w'.heap.size
  block : ∀ k, k < w.heap.size → ¬ F k → w'.heap[k]? = w.heap[k]?

theorem Fr.refl (F : Nat → Prop) (w : World) : Fr F w w := ⟨rfl, rfl, rfl, Nat.le_refl _, fun _ _ _ => rfl⟩
theorem Fr.mono {F G : Nat → Prop} {w w' : World} (h : Fr F w w') (hFG : ∀ k, k < w.heap.size → F k → G k) : Fr G w w' :=
  ⟨h.os, h.tape, h.output, h.size, fun k hk hg => h.block k hk (fun hf => hg (hFG k hk hf))⟩
/-- One behind the other: the second one may also turn what the first one made. -/
theorem Fr.trans {F G : Nat → Prop} {a b c : World} (h : Fr F a b) (k : Fr G b c) (hG : ∀ i, i < a.heap.size → G i → F i) : Fr F a c :=
  ⟨k.os.trans h.os, k.tape.trans h.tape, k.output.trans h.output, Nat.le_trans h.size k.size,
    fun i hi hf => (k.block i (Nat.lt_of_lt_of_le hi h.size) (fun hg => hf (hG i hi hg))).trans (h.block i hi hf)⟩
theorem Fr.drew {F : Nat → Prop} {a w : World} (h : Fr F a w) : Fr F a w.drew := ⟨h.os, h.tape, h.output, h.size, h.block⟩
theorem Fr.drewN {F : Nat → Prop} {a w : World} (h : Fr F a w) (n : Nat) : Fr F a (w.drewN n) := ⟨h.os, h.tape, h.output, h.size, h.block⟩
theorem Fr.alloc {F : Nat → Prop} {a w : World} (h : Fr F a w) (o : Obj) : Fr F a (w.alloc o) :=
  ⟨h.os, h.tape, h.output, Nat.le_trans h.size (by simp), fun i hi hf => (Below.heap_alloc w o i (Nat.lt_of_lt_of_le hi h.size)).trans (h.block i hi hf)⟩
theorem Fr.setCell {F : Nat → Prop} {a w : World} (h : Fr F a w) {p : Addr} (hp : p.block < a.heap.size → F p.block) (u : Value) : Fr F a (w.setCell p u) :=
  ⟨h.os, h.tape, h.output, by simpa [World.setCell] using h.size, fun i hi hf => (Below.heap_setCell w p u i (by
    rintro rfl
    exact hf (hp hi))).trans (h.block i hi hf)⟩
theorem Fr.grown {F : Nat → Prop} {a w w' : World} {row : Option Nat} (h : Fr F a w) (hg : w.grownBy w' row) (hr : ∀ k, row = some k → k < a.heap.size → F k) : Fr F a w' :=
  ⟨hg.os.trans h.os, hg.tape.trans h.tape, hg.output.trans h.output, Nat.le_trans h.size hg.size, fun i hi hf =>
    (hg.block i (Nat.lt_of_lt_of_le hi h.size) (fun e => hf (hr i e.symm hi))).trans (h.block i hi hf)⟩
theorem Fr.of_below {F : Nat → Prop} {a w : World} (h : Below a.heap.size a w) : Fr F a w := ⟨h.os, h.tape, h.output, h.size, fun k hk _ => h.block k hk⟩
theorem Fr.then_below {F : Nat → Prop} {a w w' : World} (h : Fr F a w) (k : Below w.heap.size w w') : Fr F a w' :=
  h.trans (Fr.of_below (F := F) k) (fun _ _ hf => hf)
theorem Fr.below {F : Nat → Prop} {a w : World} (h : Fr F a w) (B : Nat) (hB : B ≤ a.heap.size) (hF : ∀ k, k < B → ¬ F k) : Below B a w :=
  ⟨h.os, h.tape, h.output, h.size, fun k hk => h.block k (by omega) (hF k hk)⟩
theorem Fr.none_below {a w : World} (h : Fr (fun _ => False) a w) : Below a.heap.size a w := h.below _ (Nat.le_refl _) (fun _ _ hf => hf)
theorem Fr.obj {F : Nat → Prop} {a w : World} (h : Fr F a w) {k : Nat} {o : Obj} (ho : a.heap[k]? = some o) (hk : ¬ F k) : w.heap[k]? = some o :=
  (h.block k (Array.getElem?_eq_some_iff.1 ho).1 hk).trans ho
theorem obj_lt {w : World} {k : Nat} {o : Obj} (h : w.heap[k]? = some o) : k < w.heap.size := (Array.getElem?_eq_some_iff.1 h).1
theorem obj_cell {w : World} {k : Nat} {cs : Array Value} {t : TypeId} {f : Nat × Nat} (h : w.heap[k]? = some (.cells cs t f)) (i : Nat) : w.cell? ⟨k, i, none⟩ = cs[i]? := cell_of_row w k i cs t f h
theorem obj_frozen {w : World} {k : Nat} {cs : Array Value} {t : TypeId} (h : w.heap[k]? = some (.cells cs t (0, 0))) (i : Nat) : w.frozen? ⟨k, i, none⟩ = false := by simp [World.frozen?, h]
theorem obj_set {w : World} {k : Nat} {cs : Array Value} {t : TypeId} (h : w.heap[k]? = some (.cells cs t (0, 0))) (i : Nat) (u : Value) : (w.setCell ⟨k, i, none⟩ u).heap[k]? = some (.cells (cs.setIfInBounds i u) t (0, 0)) := by
  simp [World.setCell, Array.getElem?_modify, h]
theorem obj_far {w : World} {k : Nat} {o : Obj} (h : w.heap[k]? = some o) {p : Addr} (hp : k ≠ p.block) (u : Value) : (w.setCell p u).heap[k]? = some o := (Below.heap_setCell w p u k hp).trans h
theorem obj_alloc {w : World} {k : Nat} {o : Obj} (h : w.heap[k]? = some o) (o' : Obj) : (w.alloc o').heap[k]? = some o := (Below.heap_alloc w o' k (obj_lt h)).trans h
theorem obj_new (w : World) (o : Obj) : (w.alloc o).heap[w.heap.size]? = some o := heap_alloc_new w o
theorem obj_below {w w1 : World} {k : Nat} {o : Obj} (h : w.heap[k]? = some o) (hb : Below w.heap.size w w1) : w1.heap[k]? = some o := (hb.block k (obj_lt h)).trans h
theorem add_plain' (g o j : Nat) : (⟨g, o, none⟩ : Addr).add j = ⟨g, o + j, none⟩ := by unfold Addr.add; split <;> simp_all
/-- A region that draws its order: n quiet operations, then a tail in one order; over the world's own word for a draw. -/
theorem wp_stl {P : Program} {id : Nat} {Q : Exit → Act → World → Prop} {a : Act} {w : World} {l : List Oper} (n : Nat) (hm : P.follows .mixedOrders = true) (hB : Region.lexTailB .any l.toArray n = true)
    (h : wpStill P l.toArray w.drew (fun a' => wpList P l.toArray Q (l.drop n) a' w.drew) (l.take n) a) : (Code.region id l.toArray true).wp P Q a w :=
  wp_region_still_tail n hm hB h
/-- Two results, the first one a struct in memory. -/
theorem res_ct {P : Program} {fn : Func} {p u : Tmp} {ty : TypeId} (h : fn.results = #[.cell p ty, .tmp u]) (tmps : Array Value) (w : World) (g : Nat) (t : TypeId) (cs : Array Value) (fr : Nat × Nat) (d : TypeDesc)
    (hp : tmps.getD p undef = .pointer (some ⟨g, 0, none⟩)) (hg : w.heap[g]? = some (.cells cs t fr)) (hu : P.underlying ty = some d) (hd : (match d with | .struct _ | .array _ _ => true | _ => false) = true)
    (hi : (P.info? ty).map (·.size) = some cs.size) : (results fn tmps).run P w = .ok (.tuple #[.agg cs, tmps.getD u undef]) w := by
  have hp' : tmps[p]?.getD undef = .pointer (some ⟨g, 0, none⟩) := by simpa using hp
  simp [results, h, hp', asAddr, run_loadVar_row w g t ty cs fr d hg hu hd hi]
theorem undrew {w w' : World} (h : Below w.drew.heap.size w.drew w') : Below w.heap.size w w' := ⟨h.os, h.tape, h.output, h.size, h.block⟩
theorem hide {p : Prop} (h : p) : Hid p := h
end Go.Proofs.Ytljmaicobafgkaa
end
section
/- A region that draws its order, by what each operation yields: whatever order, number i yields a value of V i, and the world stays one of S. -/
namespace Go.Proofs.Ytljmaicobafgkaa
open Go.RowKit

section
variable {P : Program} {ops : Array Oper} {Q : Exit → Act → World → Prop}

/-- An operation waits for earlier ones alone. -/
def orderedB (ops : Array Oper) : Bool := (List.range ops.size).all fun i => match ops[i]? with | some o => o.after.all fun e => !Region.binds .any e || decide (e.on < i) | none => true
theorem orderedB_spec (h : orderedB ops = true) {i : Nat} {o : Oper} (ho : ops[i]? = some o) : ∀ e ∈ o.after, Region.binds .any e = true → e.on < i := fun e he hb => by
  have h1 := List.all_eq_true.1 h i (List.mem_range.2 (Array.getElem?_eq_some_iff.1 ho).1)
  rw [ho] at h1
  have h2 := Array.all_eq_true_iff_forall_mem.1 h1 e he
  simp only [hb, Bool.not_true, Bool.false_or, decide_eq_true_eq] at h2
  exact h2
theorem all_listed (h : orderedB ops = true) {l : Array Bool} (hl : l.size = ops.size) (hr : Region.ready .any ops l = []) : ∀ i, i < ops.size → l.getD i false = true := by
  intro i
  induction i using Nat.strongRecOn with
  | _ i ih =>
    intro hi
    rcases hc : l.getD i false with _ | _
    · exfalso
      have ho : ops[i]? = some ops[i] := Array.getElem?_eq_getElem hi
      have hm : i ∈ Region.ready .any ops l := mem_ready.2 ⟨by
        have hi2 : i < l.size := by omega
        simp [Array.getElem?_eq_getElem hi2] at hc ⊢
        exact hc, _, ho, fun e he hb => ih e.on (orderedB_spec h ho e he hb) (by have := orderedB_spec h ho e he hb; omega)⟩
      rw [hr] at hm
      cases hm
    · rfl
theorem wpAny_inv (J : Array Bool → Act → World → Prop) (hord : orderedB ops = true)
    (hdone : ∀ l a w, l.size = ops.size → J l a w → (∀ i, i < ops.size → l.getD i false = true) → Q .normal a w)
    (hstep : ∀ i o, ops[i]? = some o → ∀ l a w, J l a w → l.getD i true = false → (∀ e ∈ o.after, Region.binds .any e = true → l.getD e.on false = true) →
      ∀ K : Act → World → Prop, (∀ a' w', J (l.setIfInBounds i true) a' w' → K a' w') → if Region.wanted o (yielded ops a.tmps) = true then Oper.wp P o a w K Q else K (a.put o.dst undef) w) :
    ∀ (fuel : Nat) (l : Array Bool) (a : Act) (w : World), l.size = ops.size → l.toList.count false ≤ fuel → J l a w → wpAny P .any ops Q fuel l a w
  | 0, l, a, w, hl, hc, hJ => by
    have hr : Region.ready .any ops l = [] := by
      rcases e : Region.ready .any ops l with _ | ⟨i, r⟩
      · rfl
      · exfalso
        have hi : i ∈ Region.ready .any ops l := by rw [e]; exact List.mem_cons_self
        have h0 := (mem_ready.1 hi).1
        have hi2 : i < l.size := by
          rcases Nat.lt_or_ge i l.size with h' | h'
          · exact h'
          · simp [Array.getElem?_eq_none h'] at h0
        simp [Array.getElem?_eq_getElem hi2] at h0
        have : false ∈ l.toList := by
          rw [← h0]
          exact Array.getElem_mem_toList hi2
        have := List.count_pos_iff.2 this
        omega
    exact ⟨hr, hdone l a w hl hJ (all_listed hord hl hr)⟩
  | fuel + 1, l, a, w, hl, hc, hJ => by
    refine ⟨fun hr => hdone l a w hl hJ (all_listed hord hl hr), fun i hi => ?_⟩
    obtain ⟨h0, o, ho, hdep⟩ := mem_ready.1 hi
    refine wpOp_step ho fun K hK => hstep i o ho l a w hJ h0 hdep K fun a' w' h' => hK a' w' ?_
    refine wpAny_inv J hord hdone hstep fuel _ a' w' (by simpa using hl) ?_ h'
    have hi2 : i < l.size := by
      rcases Nat.lt_or_ge i l.size with h' | h'
      · exact h'
      · simp [Array.getElem?_eq_none h'] at h0
    have h1 : l[i] = false := by simpa [Array.getElem?_eq_getElem hi2] using h0
    have h2 : l.toList[i]'(by simpa using hi2) = false := h1
    have hm : false ∈ l.toList := by rw [← h1]; exact Array.getElem_mem_toList hi2
    have hp := List.count_pos_iff.2 hm
    rw [Array.toList_setIfInBounds, List.count_set (by simpa using hi2), h2]
    simp only [BEq.rfl, if_true, Bool.true_beq, Bool.false_eq_true, if_false]
    omega

theorem wanted_none {o : Oper} (h : o.guard = none) (f : Nat → Option Bool) : Region.wanted o f = true := by unfold Region.wanted; rw [h]
/-- What is asked of each operation, one by one. -/
def Steps (P : Program) (ops : Array Oper) (Q : Exit → Act → World → Prop) (A : (Nat → Value) → Act) (S : World → Prop) (V : Nat → Value → World → Prop) : List Oper → Nat → Prop
  | [], _ => True
  | o :: l, i => (∀ x w, S w → (∀ e ∈ o.after.toList.filter (Region.binds .any), V e.on (x e.on) w) → ∀ K : Act → World → Prop,
      (∀ v w', Below w.heap.size w w' → V i v w' → K ((A x).put o.dst v) w') → Region.wanted o (yielded ops (A x).tmps) = true ∧ Oper.wp P o (A x) w K Q) ∧ Steps P ops Q A S V l (i + 1)
theorem Steps.get {A : (Nat → Value) → Act} {S : World → Prop} {V : Nat → Value → World → Prop} : ∀ (l : List Oper) (k : Nat), Steps P ops Q A S V l k → ∀ (i : Nat) (o : Oper), l[i]? = some o →
    ∀ x w, S w → (∀ e ∈ o.after.toList.filter (Region.binds .any), V e.on (x e.on) w) → ∀ K : Act → World → Prop,
      (∀ v w', Below w.heap.size w w' → V (k + i) v w' → K ((A x).put o.dst v) w') → Region.wanted o (yielded ops (A x).tmps) = true ∧ Oper.wp P o (A x) w K Q
  | [], _, _, _, _, h => by simp at h
  | _ :: _, _, hs, 0, _, h => by
    simp only [List.getElem?_cons_zero, Option.some.injEq] at h
    subst h
    exact hs.1
  | _ :: l, k, hs, i + 1, o, h => by
    have := Steps.get l (k + 1) hs.2 i o (by simpa using h)
    rw [show k + 1 + i = k + (i + 1) from by omega] at this
    exact this
def Puts (A : (Nat → Value) → Act) : List Oper → Nat → Prop
  | [], _ => True
  | o :: l, i => (∀ x v, (A x).put o.dst v = A (fun j => if j = i then v else x j)) ∧ Puts A l (i + 1)
theorem Puts.get {A : (Nat → Value) → Act} : ∀ (l : List Oper) (k : Nat), Puts A l k → ∀ (i : Nat) (o : Oper), l[i]? = some o → ∀ x v, (A x).put o.dst v = A (fun j => if j = k + i then v else x j)
  | [], _, _, _, _, h => by simp at h
  | _ :: _, _, hs, 0, _, h => by
    simp only [List.getElem?_cons_zero, Option.some.injEq] at h
    subst h
    exact hs.1
  | _ :: l, k, hs, i + 1, o, h => by
    have := Puts.get l (k + 1) hs.2 i o (by simpa using h)
    rw [show k + 1 + i = k + (i + 1) from by omega] at this
    exact this

theorem wp_region_vals {id : Nat} (A : (Nat → Value) → Act) (x0 : Nat → Value) (S : World → Prop) (V : Nat → Value → World → Prop) {a : Act} {w : World}
    (hm : P.follows .mixedOrders = true) (hord : orderedB ops = true) (ha : a = A x0)
    (hS : ∀ w w', Below w.heap.size w w' → S w → S w') (hV : ∀ i v w w', Below w.heap.size w w' → V i v w → V i v w') (h0 : S w.drew)
    (hput : Puts A ops.toList 0) (hstep : Steps P ops Q A S V ops.toList 0)
    (hdone : ∀ x w', S w' → (∀ i, i < ops.size → V i (x i) w') → Q .normal (A x) w') : (Code.region id ops true).wp P Q a w := by
  subst ha
  refine wp_region_any hm (wpAny_inv (fun l a w => ∃ x, a = A x ∧ S w ∧ ∀ i, l.getD i false = true → V i (x i) w) hord ?_ ?_ _ _ _ _ (by simp) ?_ ⟨x0, rfl, h0, ?_⟩)
  · rintro l a w _ ⟨x, rfl, hs, hv⟩ hall
    exact hdone x w hs fun i hi => hv i (hall i hi)
  · rintro i o ho l a w ⟨x, rfl, hs, hv⟩ h0 hdep K hK
    have hl : ops.toList[i]? = some o := by rw [Array.getElem?_toList]; exact ho
    have hg : Region.wanted o (yielded ops (A x).tmps) = true ∧ Oper.wp P o (A x) w K Q := by
     refine Steps.get ops.toList 0 hstep i o hl x w hs (fun e he => ?_) K fun v w' hb hv' => hK _ _ ⟨fun j => if j = 0 + i then v else x j, Puts.get ops.toList 0 hput i o hl x v, hS _ _ hb hs, fun j hj => ?_⟩
     · rw [List.mem_filter] at he
       exact hv e.on (hdep e (by simpa using he.1) he.2)
     · by_cases hji : j = i
       · subst hji
         show V j (if j = 0 + j then v else x j) w'
         rw [Nat.zero_add, if_pos rfl]
         rw [Nat.zero_add] at hv'
         exact hv'
       · show V j (if j = 0 + i then v else x j) w'
         rw [Nat.zero_add, if_neg hji]
         rw [getD_set_ne false (Ne.symm hji)] at hj
         exact hV _ _ _ _ hb (hv j hj)
    rw [if_pos hg.1]
    exact hg.2
  · simp
  · intro i hi
    exfalso
    simp [Array.getElem?_replicate] at hi
    split at hi <;> simp at hi
end
end Go.Proofs.Ytljmaicobafgkaa
end
section
/- Bytes in memory: a row of bytes as a list; string(b) of it. -/
namespace Go.Proofs.Ytljmaicobafgkaa
open Go.RowKit

def byteVals (l : List UInt8) : List Value := l.map fun b => .int .u8 (b.toNat : Int)
theorem byteVals_length (l : List UInt8) : (byteVals l).length = l.length := by simp [byteVals]
theorem byteVals_append (l m : List UInt8) : byteVals (l ++ m) = byteVals l ++ byteVals m := by simp [byteVals]
theorem byteVals_get {l : List UInt8} {j : Nat} (hj : j < l.length) : (byteVals l)[j]? = some (.int .u8 (l[j].toNat : Int)) := by
  simp [byteVals, hj]

/-- The least byte of a number. -/
def ub (n : Int) : UInt8 := UInt8.ofNat (n % 256).toNat
theorem ub_val (n : Int) : ((ub n).toNat : Int) = n % 256 := by
  have h0 := Int.emod_nonneg n (b := 256) (by decide)
  have h1 := Int.emod_lt_of_pos n (b := 256) (by decide)
  simp only [ub, UInt8.toNat_ofNat']
  omega
theorem ub_small {n : Int} (h0 : 0 ≤ n) (h1 : n < 256) : ((ub n).toNat : Int) = n := by rw [ub_val]; omega

/-- string(b), b a slice whose cells are the bytes l. -/
theorem conv_str {w : World} {A : Option Addr} {n cap : Nat} (l : List UInt8) (hn : n = l.length) (hc : ∀ ad, A = some ad → ∀ j u, (byteVals l)[j]? = some u → w.cell? (ad.add j) = some u) (h0 : A = none → l = []) :
    (convert 77 9 (.slice A n cap)).run Try.prog w = .ok (.string ⟨l.toArray⟩) w := by
  subst hn
  rcases A with _ | a
  · have := h0 rfl
    subst this
    rw [Go.run_convert_bytes_string w 77 9 5 none _ cap Try.underlying77 Try.underlying5 Try.underlying9]
    simp [Conv.bytesToString, Sem.run_pure]

    rfl
  · exact run_convert_bytes_back w 77 9 5 a cap l Try.underlying77 Try.underlying5 Try.underlying9 (fun j hj => hc a rfl j _ (byteVals_get hj))

theorem str_size (l : List UInt8) : (⟨l.toArray⟩ : ByteArray).size = l.length := rfl
theorem str_list (l : List UInt8) : (⟨l.toArray⟩ : ByteArray).data.toList = l := rfl
theorem str_eta (s : ByteArray) : (⟨s.data.toList.toArray⟩ : ByteArray) = s := by cases s; rfl
theorem size_list (s : ByteArray) : s.size = s.data.toList.length := rfl

/-- A number in four bytes. -/
def le4 (n : Int) : List UInt8 := [ub n, ub (n / 256), ub (n / 65536), ub (n / 16777216)]

set_option maxRecDepth 100000 in
theorem four_any (n : Int) (w : World) (h0 : 0 ≤ n) (h1 : n < 4294967296) :
    Calls Try.prog 170 #[.int .u32 n] w fun e w' => e = .returned (.string ⟨(le4 n).toArray⟩) ∧ Below w.heap.size w w' := by
  have hcv : (convert 77 9 (.slice (some ⟨w.heap.size, 0, none⟩) 4 4)).run Try.prog (w.alloc (.cells #[.int .u8 (n % 256), .int .u8 (n / 256 % 256), .int .u8 (n / 65536 % 256), .int .u8 (n / 16777216)] 5)) = .ok (.string ⟨(le4 n).toArray⟩) (w.alloc (.cells #[.int .u8 (n % 256), .int .u8 (n / 256 % 256), .int .u8 (n / 65536 % 256), .int .u8 (n / 16777216)] 5)) := by
    refine conv_str (le4 n) rfl (fun ad ha j u hu => ?_) (fun h => by simp at h)
    cases ha
    rw [add_plain', Nat.zero_add, obj_cell (obj_new w _) j]
    rw [← hu]
    match j with
    | 0 => simp [byteVals, le4, ub_val]
    | 1 => simp [byteVals, le4, ub_val]
    | 2 => simp [byteVals, le4, ub_val]
    | 3 => simp [byteVals, le4, ub_small (n := n / 16777216) (by omega) (by omega)]
    | j + 4 => simp [byteVals, le4]
  have HC := hide hcv
  clear hcv
  go_enter Try.func170, Try.ntmps170
  go_wp2
  rw [HC.out]
  go_wp2
  go_ret
  exact ⟨rfl, (Below.refl _ _).alloc (Nat.le_refl _) _⟩
end Go.Proofs.Ytljmaicobafgkaa
end
section
/- Appending bytes: onto a slice that came in full, or onto a row of the call's own. -/
namespace Go.Proofs.Ytljmaicobafgkaa
open Go.RowKit

theorem info5 : (Try.prog.info? 5).map (fun i => (i.zero, i.size, i.bytes)) = some (some (.int .u8 0), 1, 1) := by kernel_rfl

/-- The slice (A, l.length, ..) reads as the bytes l, in blocks below B. -/
def RdB (w : World) (B : Nat) (A : Option Addr) (l : List UInt8) : Prop :=
  (A = none → l = []) ∧ ∀ ad, A = some ad → ad.block < B ∧ ∀ j u, (byteVals l)[j]? = some u → w.cell? (ad.add j) = some u
theorem RdB.below {w w' : World} {B : Nat} {A : Option Addr} {l : List UInt8} (h : RdB w B A l) (hb : Below B w w') : RdB w' B A l :=
  ⟨h.1, fun ad e => ⟨(h.2 ad e).1, fun j u hu => by
    rw [hb.cell (p := ad.add j) (by rw [show (ad.add j).block = ad.block from by unfold Addr.add; split <;> rfl]; exact (h.2 ad e).1)]
    exact (h.2 ad e).2 j u hu⟩⟩
theorem RdB.more {w : World} {B B' : Nat} {A : Option Addr} {l : List UInt8} (h : RdB w B A l) (hB : B ≤ B') : RdB w B' A l :=
  ⟨h.1, fun ad e => ⟨Nat.lt_of_lt_of_le (h.2 ad e).1 hB, (h.2 ad e).2⟩⟩
theorem RdB.nil (w : World) (B : Nat) : RdB w B none [] := ⟨fun _ => rfl, fun _ h => by cases h⟩

/-- A row of bytes that lies from block B on. -/
def OwB (w : World) (B : Nat) (v : Value) (l : List UInt8) : Prop := w.ownsRow B 5 1 v l.length (byteVals l)
theorem OwB.rd {w : World} {B : Nat} {v : Value} {l : List UInt8} (h : OwB w B v l) : ∃ A c, v = .slice A l.length c ∧ l.length ≤ c ∧ RdB w w.heap.size A l := by
  rcases h.2 with ⟨rfl, h0⟩ | ⟨g, cap, cur, rfl, hb, hh, hn, hm, hc, ht⟩
  · have : l = [] := List.eq_nil_of_length_eq_zero h0
    subst this
    exact ⟨none, 0, rfl, Nat.le_refl _, RdB.nil _ _⟩
  · refine ⟨_, _, rfl, hn, fun e => (by cases e), fun ad e => ?_⟩
    cases e
    refine ⟨obj_lt hh, fun j u hu => ?_⟩
    rw [add_plain', obj_cell hh, Nat.zero_add, ← Array.getElem?_toList]
    have hj : j < l.length := by
      have := (List.getElem?_eq_some_iff.1 hu).1
      simpa [byteVals] using this
    rw [← ht, List.getElem?_take] at hu
    simpa [hj] using hu

theorem one_byte (w : World) (b : UInt8) (j : Nat) (u : Value) (hu : ([.int .u8 (b.toNat : Int)] : List Value)[j]? = some u) :
    (w.alloc (.cells #[.int .u8 (b.toNat : Int)] 5)).cell? ((⟨w.heap.size, 0, none⟩ : Addr).add j) = some u := by
  rw [add_plain', Nat.zero_add, obj_cell (obj_new w _)]
  rw [← hu]
  match j with
  | 0 => rfl
  | j + 1 => rfl

section
variable {P : Program} {w : World}
theorem wpList_append_run {ops : Array Oper} {rest : List Oper} {o : Oper} {a : Act} {Q : Exit → Act → World → Prop} (hgd : o.guard = none) (s x : Operand) (t u : TypeId)
    (ho : o.op = .call { callee := .builtin .append, args := #[s, x], argTypes := #[t, u] }) {vs vx v' : Value} {w' : World} (hs : a.eval s = vs) (hx : a.eval x = vx)
    (hrun : (Builtin.append_ #[t, u] o.type #[vs, vx]).run P w = .ok v' w') (h : wpList P ops Q rest (a.put o.dst v') w') : wpList P ops Q (o :: rest) a w := by
  refine wpList_plain hgd fun K hK => ?_
  unfold Oper.wp execOp
  simp only [ho, resolve, invoke, builtin, Sem.run_bind, Sem.run_pure, Result.andThen_ok, List.map_toArray, List.map_cons, List.map_nil, hs, hx, hrun]
  exact hK _ _ h
end

/-- One byte onto a slice that came in full. -/
theorem app_full {w : World} {A : Option Addr} {l : List UInt8} (h : RdB w w.heap.size A l) (b : UInt8) (hl : l.length + 1 ≤ 140737488355328) (ty : TypeId) :
    ∃ v' w', (Builtin.append_ #[77, 77] ty #[.slice A l.length l.length, .slice (some ⟨w.heap.size, 0, none⟩) 1 1]).run Try.prog (w.alloc (.cells #[.int .u8 (b.toNat : Int)] 5)) = .ok v' w' ∧
      OwB w' w.heap.size v' (l ++ [b]) ∧ Below w.heap.size w w' := by
  obtain ⟨i0, hi0, hz0, hz1, hz2⟩ := info_parts info5
  have hb0 := (Below.refl w.heap.size w).alloc (Nat.le_refl _) (.cells #[.int .u8 (b.toNat : Int)] 5)
  rcases A with _ | ad
  · have : l = [] := h.1 rfl
    subst this
    obtain ⟨v', w', hrun, hown, hg, _, _⟩ := run_append_own_at (P := Try.prog) (w.alloc (.cells #[.int .u8 (b.toNat : Int)] 5)) w.heap.size 77 ty 5 i0 (.int .u8 0) 1 1 Try.underlying77 hi0 hz0 hz1 hz2 rfl (by decide) (.slice none 0 0) 0 [] (World.ownsRow_nil _ _ _ _) ⟨w.heap.size, 0, none⟩ 1 1 [.int .u8 (b.toNat : Int)] rfl (one_byte w b) (by simp [Value.oneCell']) (by simp [maxLen]) (by decide) (by simp)
    exact ⟨v', w', hrun, by simpa [OwB, byteVals] using hown, hb0.grown hg (by simp) (by simp [Value.ownBlock])⟩
  · have hlen : (byteVals l).length = l.length * 1 := by simp [byteVals]
    obtain ⟨v', w', hrun, hown, hg⟩ := run_append_arg_grows (P := Try.prog) (w.alloc (.cells #[.int .u8 (b.toNat : Int)] 5)) 77 ty 5 i0 (.int .u8 0) 1 1 Try.underlying77 hi0 hz0 hz1 hz2 rfl (by decide) ad l.length l.length (byteVals l) hlen
      (fun j u hu => ((h.more (Nat.le_refl _)).below hb0).2 ad rfl |>.2 j u hu) ⟨w.heap.size, 0, none⟩ 1 1 [.int .u8 (b.toNat : Int)] rfl (one_byte w b) (by omega) (by simp only [maxLen]; omega) (by omega)
    refine ⟨v', w', hrun, ?_, hb0.grown hg (by simp) (by simp)⟩
    have e : byteVals (l ++ [b]) = byteVals l ++ [.int .u8 (b.toNat : Int)] := by simp [byteVals]
    unfold OwB
    rw [e, List.length_append]
    refine ⟨hown.1, hown.2.imp id ?_⟩
    rintro ⟨g, cap, cur, h1, h2, h3⟩
    refine ⟨g, cap, cur, h1, Nat.le_trans ?_ h2, h3⟩
    simp

/-- One byte onto a row of the call's own. -/
theorem app_own {w : World} {B : Nat} {v : Value} {l : List UInt8} (h : OwB w B v l) (b : UInt8) (hl : l.length + 1 ≤ 140737488355328) (hB : B ≤ w.heap.size) (ty : TypeId) :
    ∃ v' w', (Builtin.append_ #[77, 77] ty #[v, .slice (some ⟨w.heap.size, 0, none⟩) 1 1]).run Try.prog (w.alloc (.cells #[.int .u8 (b.toNat : Int)] 5)) = .ok v' w' ∧
      OwB w' B v' (l ++ [b]) ∧ Below B w w' := by
  obtain ⟨i0, hi0, hz0, hz1, hz2⟩ := info_parts info5
  have hb0 := (Below.refl B w).alloc hB (.cells #[.int .u8 (b.toNat : Int)] 5)
  obtain ⟨v', w', hrun, hown, hg, _, _⟩ := run_append_own_at (P := Try.prog) (w.alloc (.cells #[.int .u8 (b.toNat : Int)] 5)) B 77 ty 5 i0 (.int .u8 0) 1 1 Try.underlying77 hi0 hz0 hz1 hz2 rfl (by decide) v l.length (byteVals l) (h.alloc _) ⟨w.heap.size, 0, none⟩ 1 1 [.int .u8 (b.toNat : Int)] rfl (one_byte w b) (by simp [Value.oneCell']) (by simp only [maxLen]; omega) (by omega) (by simp; omega)
  have e : byteVals (l ++ [b]) = byteVals l ++ [.int .u8 (b.toNat : Int)] := by simp [byteVals]
  refine ⟨v', w', hrun, by unfold OwB; rw [e, List.length_append]; exact hown, hb0.grown hg (by simp; omega) (fun k hk => ?_)⟩
  rcases h.2 with ⟨rfl, _⟩ | ⟨g, cap, cur, rfl, hb, _⟩
  · simp [Value.ownBlock] at hk
  · simp [Value.ownBlock] at hk
    omega
end Go.Proofs.Ytljmaicobafgkaa
end
section
/- Numbers as bytes: plain arithmetic of zigzag and seven-bit groups. -/
namespace Go.Proofs.Ytljmaicobafgkaa
open Go.RowKit

/-- Seven bits a byte, the least first. -/
def numN (u : Nat) : List UInt8 := if h : u < 128 then [UInt8.ofNat u] else UInt8.ofNat (u % 128 + 128) :: numN (u / 128)
termination_by u
decreasing_by omega
def zz (n : Int) : Nat := if 0 ≤ n then (2 * n).toNat else (-2 * n - 1).toNat
def num (n : Int) : List UInt8 := numN (zz n)
theorem numN_small {u : Nat} (h : u < 128) : numN u = [UInt8.ofNat u] := by rw [numN]; simp [h]
theorem numN_large {u : Nat} (h : ¬ u < 128) : numN u = UInt8.ofNat (u % 128 + 128) :: numN (u / 128) := by rw [numN]; simp [h]
theorem numN_length : ∀ (k u : Nat), u < 128 ^ (k + 1) → (numN u).length ≤ k + 1
  | 0, u, h => by rw [numN_small (by simpa using h)]; simp
  | k + 1, u, h => by
    by_cases hu : u < 128
    · rw [numN_small hu]; simp
    · rw [numN_large hu]
      have := numN_length k (u / 128) (by rw [Nat.pow_succ] at h; exact Nat.div_lt_of_lt_mul (by rw [Nat.mul_comm]; exact h))
      simp only [List.length_cons]
      omega
theorem numN_ten (u : Nat) (h : u < 18446744073709551616) : (numN u).length ≤ 10 := numN_length 9 u (Nat.lt_of_lt_of_le h (by decide))
theorem numN_pos (u : Nat) : 1 ≤ (numN u).length := by
  by_cases hu : u < 128
  · rw [numN_small hu]; simp
  · rw [numN_large hu]; simp

theorem zz_lt (n : Int) (h0 : -9223372036854775808 ≤ n) (h1 : n ≤ 9223372036854775807) : zz n < 18446744073709551616 := by
  unfold zz; split <;> omega

theorem xor_u64_zero (a : Nat) (ha : a < 18446744073709551616) : bits .xor .u64 (a : Int) 0 = (a : Int) := by
  show IntKind.u64.wrap ((BitVec.ofInt 64 (a : Int) ^^^ BitVec.ofInt 64 0).toNat : Int) = _
  have h : (BitVec.ofInt 64 (a : Int) ^^^ BitVec.ofInt 64 0).toNat = a := by
    rw [BitVec.toNat_xor, BitVec.ofInt_natCast, BitVec.toNat_ofNat]
    simp
    omega
  rw [h]
  show (a : Int) % 18446744073709551616 = _
  omega
theorem not_u64 (a : Nat) (ha : a < 18446744073709551616) : bits .xor .u64 (a : Int) 18446744073709551615 = ((18446744073709551615 - a : Nat) : Int) := by
  show IntKind.u64.wrap ((BitVec.ofInt 64 (a : Int) ^^^ BitVec.ofInt 64 18446744073709551615).toNat : Int) = _
  have h : BitVec.ofInt 64 (a : Int) ^^^ BitVec.ofInt 64 18446744073709551615 = ~~~ (BitVec.ofNat 64 a) := by
    rw [BitVec.ofInt_natCast]
    have : BitVec.ofInt 64 18446744073709551615 = BitVec.allOnes 64 := by decide
    rw [this, BitVec.xor_allOnes]
  rw [h, BitVec.toNat_not, BitVec.toNat_ofNat]
  show (((2 ^ 64 - 1 - a % 2 ^ 64 : Nat)) : Int) % 18446744073709551616 = _
  omega
theorem zig (n : Int) (h0 : -9223372036854775808 ≤ n) (h1 : n ≤ 9223372036854775807) :
    bits .xor .u64 (IntKind.u64.wrap (IntKind.u64.wrap n * 2)) (IntKind.u64.wrap (n / 9223372036854775808)) = (zz n : Int) := by
  have hw : ∀ x : Int, IntKind.u64.wrap x = x % 18446744073709551616 := fun x => rfl
  simp only [hw]
  by_cases hn : 0 ≤ n
  · have e1 : n / 9223372036854775808 % 18446744073709551616 = 0 := by omega
    have e2 : n % 18446744073709551616 * 2 % 18446744073709551616 = ((2 * n).toNat : Int) := by omega
    rw [e1, e2, xor_u64_zero _ (by omega)]
    simp [zz, hn]
  · have e1 : n / 9223372036854775808 % 18446744073709551616 = 18446744073709551615 := by omega
    have e2 : n % 18446744073709551616 * 2 % 18446744073709551616 = ((2 * n + 18446744073709551616).toNat : Int) := by omega
    rw [e1, e2, not_u64 _ (by omega)]
    simp only [zz, hn, if_false]
    omega
theorem or128 (u : Nat) : bits .or .u8 ((u : Int) % 256) 128 = ((UInt8.ofNat (u % 128 + 128)).toNat : Int) := by
  have h : ∀ a : Fin 256, bits .or .u8 ((a.val : Nat) : Int) 128 = ((a.val % 128 + 128 : Nat) : Int) := by decide +kernel
  have h1 := h ⟨u % 256, Nat.mod_lt _ (by decide)⟩
  have e : ((u : Int) % 256) = ((u % 256 : Nat) : Int) := by omega
  rw [e, h1]
  simp only [UInt8.toNat_ofNat']
  omega
end Go.Proofs.Ytljmaicobafgkaa
end
