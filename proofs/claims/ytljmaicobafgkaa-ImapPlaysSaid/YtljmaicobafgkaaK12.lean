/- A join of 3 texts of this claim: Ord, Ord2, Im5. Conditions: none of their own. -/
import Derived.Test.YtljmaicobafgkaaK0
import Derived.RegionTactic
import Derived.Test.YtljmaicobafgkaaK1
import Derived.Test.YtljmaicobafgkaaK11
section
/- A region that draws its order, by what each operation yields: whatever order, number i yields a value of V i, and the world stays one of S. -/
namespace Go.Proofs.Ytljmaicobafgkaa
open Go.RowKit

section
variable {P : Program} {ops : Array Oper} {Q : Exit → Act → World → Prop}

/-- An operation waits for earlier ones alone. -/
def orderedB (ops : Array Oper) : Bool := (List.range ops.size).all fun i => match ops[i]? with | some o => o.after.all fun e => !Region.binds .any e || decide (e.on < i) | none => true
theorem orderedB_spec (h : orderedB ops = true) {i : Nat} {o : Oper} (ho : ops[i]? = some o) : ∀ e ∈ o.after, Region.binds .any e = true → e.on < i := fun e he hb => by
  have h1 := List.all_eq_true.1 h i (List.mem_range.2 (Array.getElem?_eq_some_iff.1 ho).1)
  rw [ho] at h1
  have h2 := Array.all_eq_true_iff_forall_mem.1 h1 e he
  simp only [hb, Bool.not_true, Bool.false_or, decide_eq_true_eq] at h2
  exact h2
theorem all_listed (h : orderedB ops = true) {l : Array Bool} (hl : l.size = ops.size) (hr : Region.ready .any ops l = []) : ∀ i, i < ops.size → l.getD i false = true := by
  intro i
  induction i using Nat.strongRecOn with
  | _ i ih =>
    intro hi
    rcases hc : l.getD i false with _ | _
    · exfalso
      have ho : ops[i]? = some ops[i] := Array.getElem?_eq_getElem hi
      have hm : i ∈ Region.ready .any ops l := mem_ready.2 ⟨by
        have hi2 : i < l.size := by omega
        simp [Array.getElem?_eq_getElem hi2] at hc ⊢
        exact hc, _, ho, fun e he hb => ih e.on (orderedB_spec h ho e he hb) (by have := orderedB_spec h ho e he hb; omega)⟩
      rw [hr] at hm
      cases hm
    · rfl
theorem wpAny_inv (J : Array Bool → Act → World → Prop) (hord : orderedB ops = true)
    (hdone : ∀ l a w, l.size = ops.size → J l a w → (∀ i, i < ops.size → l.getD i false = true) → Q .normal a w)
    (hstep : ∀ i o, ops[i]? = some o → ∀ l a w, J l a w → l.getD i true = false → (∀ e ∈ o.after, Region.binds .any e = true → l.getD e.on false = true) →
      ∀ K : Act → World → Prop, (∀ a' w', J (l.setIfInBounds i true) a' w' → K a' w') → if Region.wanted o (yielded ops a.tmps) = true then Oper.wp P o a w K Q else K (a.put o.dst undef) w) :
    ∀ (fuel : Nat) (l : Array Bool) (a : Act) (w : World), l.size = ops.size → l.toList.count false ≤ fuel → J l a w → wpAny P .any ops Q fuel l a w
  | 0, l, a, w, hl, hc, hJ => by
    have hr : Region.ready .any ops l = [] := by
      rcases e : Region.ready .any ops l with _ | ⟨i, r⟩
      · rfl
      · exfalso
        have hi : i ∈ Region.ready .any ops l := by rw [e]; exact List.mem_cons_self
        have h0 := (mem_ready.1 hi).1
        have hi2 : i < l.size := by
          rcases Nat.lt_or_ge i l.size with h' | h'
          · exact h'
          · simp [Array.getElem?_eq_none h'] at h0
        simp [Array.getElem?_eq_getElem hi2] at h0
        have : false ∈ l.toList := by
          rw [← h0]
          exact Array.getElem_mem_toList hi2
        have := List.count_pos_iff.2 this
        omega
    exact ⟨hr, hdone l a w hl hJ (all_listed hord hl hr)⟩
  | fuel + 1, l, a, w, hl, hc, hJ => by
    refine ⟨fun hr => hdone l a w hl hJ (all_listed hord hl hr), fun i hi => ?_⟩
    obtain ⟨h0, o, ho, hdep⟩ := mem_ready.1 hi
    refine wpOp_step ho fun K hK => hstep i o ho l a w hJ h0 hdep K fun a' w' h' => hK a' w' ?_
    refine wpAny_inv J hord hdone hstep fuel _ a' w' (by simpa using hl) ?_ h'
    have hi2 : i < l.size := by
      rcases Nat.lt_or_ge i l.size with h' | h'
      · exact h'
      · simp [Array.getElem?_eq_none h'] at h0
    have h1 : l[i] = false := by simpa [Array.getElem?_eq_getElem hi2] using h0
    have h2 : l.toList[i]'(by simpa using hi2) = false := h1
    have hm : false ∈ l.toList := by rw [← h1]; exact Array.getElem_mem_toList hi2
    have hp := List.count_pos_iff.2 hm
    rw [Array.toList_setIfInBounds, List.count_set (by simpa using hi2), h2]
    simp only [BEq.rfl, if_true, Bool.true_beq, Bool.false_eq_true, if_false]
    omega

theorem wanted_none {o : Oper} (h : o.guard = none) (f : Nat → Option Bool) : Region.wanted o f = true := by unfold Region.wanted; rw [h]
/-- What is asked of each operation, one by one. -/
def Steps (P : Program) (ops : Array Oper) (Q : Exit → Act → World → Prop) (A : (Nat → Value) → Act) (S : World → Prop) (V : Nat → Value → World → Prop) : List Oper → Nat → Prop
  | [], _ => True
  | o :: l, i => (∀ x w, S w → (∀ e ∈ o.after.toList.filter (Region.binds .any), V e.on (x e.on) w) → ∀ K : Act → World → Prop,
      (∀ v w', Below w.heap.size w w' → V i v w' → K ((A x).put o.dst v) w') → Region.wanted o (yielded ops (A x).tmps) = true ∧ Oper.wp P o (A x) w K Q) ∧ Steps P ops Q A S V l (i + 1)
theorem Steps.get {A : (Nat → Value) → Act} {S : World → Prop} {V : Nat → Value → World → Prop} : ∀ (l : List Oper) (k : Nat), Steps P ops Q A S V l k → ∀ (i : Nat) (o : Oper), l[i]? = some o →
    ∀ x w, S w → (∀ e ∈ o.after.toList.filter (Region.binds .any), V e.on (x e.on) w) → ∀ K : Act → World → Prop,
      (∀ v w', Below w.heap.size w w' → V (k + i) v w' → K ((A x).put o.dst v) w') → Region.wanted o (yielded ops (A x).tmps) = true ∧ Oper.wp P o (A x) w K Q
  | [], _, _, _, _, h => by simp at h
  | _ :: _, _, hs, 0, _, h => by
    simp only [List.getElem?_cons_zero, Option.some.injEq] at h
    subst h
    exact hs.1
  | _ :: l, k, hs, i + 1, o, h => by
    have := Steps.get l (k + 1) hs.2 i o (by simpa using h)
    rw [show k + 1 + i = k + (i + 1) from by omega] at this
    exact this
def Puts (A : (Nat → Value) → Act) : List Oper → Nat → Prop
  | [], _ => True
  | o :: l, i => (∀ x v, (A x).put o.dst v = A (fun j => if j = i then v else x j)) ∧ Puts A l (i + 1)
theorem Puts.get {A : (Nat → Value) → Act} : ∀ (l : List Oper) (k : Nat), Puts A l k → ∀ (i : Nat) (o : Oper), l[i]? = some o → ∀ x v, (A x).put o.dst v = A (fun j => if j = k + i then v else x j)
  | [], _, _, _, _, h => by simp at h
  | _ :: _, _, hs, 0, _, h => by
    simp only [List.getElem?_cons_zero, Option.some.injEq] at h
    subst h
    exact hs.1
  | _ :: l, k, hs, i + 1, o, h => by
    have := Puts.get l (k + 1) hs.2 i o (by simpa using h)
    rw [show k + 1 + i = k + (i + 1) from by omega] at this
    exact this

theorem wp_region_vals {id : Nat} (A : (Nat → Value) → Act) (x0 : Nat → Value) (S : World → Prop) (V : Nat → Value → World → Prop) {a : Act} {w : World}
    (hm : P.follows .mixedOrders = true) (hord : orderedB ops = true) (ha : a = A x0)
    (hS : ∀ w w', Below w.heap.size w w' → S w → S w') (hV : ∀ i v w w', Below w.heap.size w w' → V i v w → V i v w') (h0 : S w.drew)
    (hput : Puts A ops.toList 0) (hstep : Steps P ops Q A S V ops.toList 0)
    (hdone : ∀ x w', S w' → (∀ i, i < ops.size → V i (x i) w') → Q .normal (A x) w') : (Code.region id ops true).wp P Q a w := by
  subst ha
  refine wp_region_any hm (wpAny_inv (fun l a w => ∃ x, a = A x ∧ S w ∧ ∀ i, l.getD i false = true → V i (x i) w) hord ?_ ?_ _ _ _ _ (by simp) ?_ ⟨x0, rfl, h0, ?_⟩)
  · rintro l a w _ ⟨x, rfl, hs, hv⟩ hall
    exact hdone x w hs fun i hi => hv i (hall i hi)
  · rintro i o ho l a w ⟨x, rfl, hs, hv⟩ h0 hdep K hK
    have hl : ops.toList[i]? = some o := by rw [Array.getElem?_toList]; exact ho
    have hg : Region.wanted o (yielded ops (A x).tmps) = true ∧ Oper.wp P o (A x) w K Q := by
     refine Steps.get ops.toList 0 hstep i o hl x w hs (fun e he => ?_) K fun v w' hb hv' => hK _ _ ⟨fun j => if j = 0 + i then v else x j, Puts.get ops.toList 0 hput i o hl x v, hS _ _ hb hs, fun j hj => ?_⟩
     · rw [List.mem_filter] at he
       exact hv e.on (hdep e (by simpa using he.1) he.2)
     · by_cases hji : j = i
       · subst hji
         show V j (if j = 0 + j then v else x j) w'
         rw [Nat.zero_add, if_pos rfl]
         rw [Nat.zero_add] at hv'
         exact hv'
       · show V j (if j = 0 + i then v else x j) w'
         rw [Nat.zero_add, if_neg hji]
         rw [getD_set_ne false (Ne.symm hji)] at hj
         exact hV _ _ _ _ hb (hv j hj)
    rw [if_pos hg.1]
    exact hg.2
  · simp
  · intro i hi
    exfalso
    simp [Array.getElem?_replicate] at hi
    split at hi <;> simp at hi
end
end Go.Proofs.Ytljmaicobafgkaa
end
section
/- Words over Ord: a world in which a block is kept; a row of the call's own over a frame. -/
namespace Go.Proofs.Ytljmaicobafgkaa
open Go.RowKit

/-- Block g holds cs, and what lay below B is as it was. -/
def Kept (B g : Nat) (cs : Array Value) (t : TypeId) (w0 w : World) : Prop := Below B w0 w ∧ B ≤ w.heap.size ∧ w.heap[g]? = some (.cells cs t (0, 0))
theorem Kept.drew {B g : Nat} {cs : Array Value} {t : TypeId} {w0 w : World} (h : Kept B g cs t w0 w) : Kept B g cs t w0 w.drew := ⟨h.1.drew, h.2.1, h.2.2⟩
theorem Kept.on {B g : Nat} {cs : Array Value} {t : TypeId} {w0 w w' : World} (hb : Below w.heap.size w w') (h : Kept B g cs t w0 w) : Kept B g cs t w0 w' :=
  ⟨h.1.trans (hb.mono h.2.1), Nat.le_trans h.2.1 hb.size, obj_below h.2.2 hb⟩
theorem Kept.self {g : Nat} {cs : Array Value} {t : TypeId} {w : World} (h : w.heap[g]? = some (.cells cs t (0, 0))) : Kept w.heap.size g cs t w w := ⟨Below.refl _ _, Nat.le_refl _, h⟩
theorem Kept.cell {B g : Nat} {cs : Array Value} {t : TypeId} {w0 w : World} (h : Kept B g cs t w0 w) (i : Nat) : w.cell? ⟨g, i, none⟩ = cs[i]? := obj_cell h.2.2 i
theorem Kept.lt {B g : Nat} {cs : Array Value} {t : TypeId} {w0 w : World} (h : Kept B g cs t w0 w) : g < w.heap.size := obj_lt h.2.2
theorem row_fr {F : Nat → Prop} {w w' : World} {B : Nat} {e : TypeId} {size : Nat} {v : Value} {n : Nat} {xs : List Value} (h : w.ownsRow B e size v n xs) (hf : Fr F w w') (hn : ∀ k, v.ownBlock = some k → ¬ F k) : w'.ownsRow B e size v n xs := by
  refine ⟨h.1, h.2.imp id ?_⟩
  rintro ⟨g, cap, cur, rfl, hb, hh, hr⟩
  exact ⟨g, cap, cur, rfl, hb, hf.obj hh (hn g rfl), hr⟩
theorem row_below {w w' : World} {B : Nat} {e : TypeId} {size : Nat} {v : Value} {n : Nat} {xs : List Value} (h : w.ownsRow B e size v n xs) (hb : Below w.heap.size w w') : w'.ownsRow B e size v n xs :=
  row_fr h (Fr.of_below hb) (fun _ _ hf => hf)
theorem row_slice {w : World} {B : Nat} {e : TypeId} {size : Nat} {v : Value} {n : Nat} {xs : List Value} (h : w.ownsRow B e size v n xs) : ∃ A c, v = .slice A n c := by
  rcases h.2 with ⟨rfl, rfl⟩ | ⟨g, cap, cur, rfl, _⟩
  · exact ⟨_, _, rfl⟩
  · exact ⟨_, _, rfl⟩
theorem row_typed {w : World} {B : Nat} {e : TypeId} {size : Nat} {v : Value} {n : Nat} {xs : List Value} (h : w.ownsRow B e size v n xs) {k : Nat} (hk : v.ownBlock = some k) : B ≤ k ∧ ∃ cs, w.heap[k]? = some (.cells cs e (0, 0)) := by
  rcases h.2 with ⟨rfl, rfl⟩ | ⟨g, cap, cur, rfl, hb, hh, _⟩
  · cases hk
  · cases hk
    exact ⟨hb, cur, hh⟩
end Go.Proofs.Ytljmaicobafgkaa
end
section
/- Chapter 25, imap: All, Live. -/
namespace Go.Proofs.Ytljmaicobafgkaa
open Go.RowKit Go.Shelf
attribute [local go_sem] Oper.semAt_some

theorem info3 : (Try.prog.info? 3).map (fun i => (i.zero, i.size, i.bytes)) = some (some (.int .i64 0), 1, 8) := by kernel_rfl
def allL (l : List (Nat × Spot)) : List Value := l.map fun p => .int .i64 (p.1 : Int)
theorem allL_snoc (l : List (Nat × Spot)) (x : Nat × Spot) : allL (l ++ [x]) = allL l ++ [.int .i64 (x.1 : Int)] := by simp [allL]
set_option maxRecDepth 100000 in
set_option maxHeartbeats 2000000 in
theorem all_in (F : Fence) (n : Nat) (h38 : F.fn 38) (h106 : F.fn 106) (h160 : F.fn 160) (hro : F.round = none) (hn : 3 ≤ n) (g : Nat) (M : Nat → Spot) (w : World) (hI : IM w g M) :
    CallsIn F n Try.prog 38 #[.pointer (some ⟨g, 0, none⟩)] w fun e W' => ∃ v, e = .returned v ∧ W'.ownsRow w.heap.size 3 1 v (entUp M 256).length (allL (entUp M 256)) ∧ Below w.heap.size w W' := by
  have h1 : 1 ≤ n := by omega
  obtain ⟨i0, hi, hz0, hz1, hz2⟩ := info_parts info3
  refine callsIn_of_wp_marks Try.func38 rfl h38 ?_ hro
  simp only [Try.ntmps38, List.size_toArray, List.length_cons, List.length_nil, Nat.reduceAdd, Nat.reduceSub, Array.replicate_succ, Array.replicate_zero, List.push_toArray, List.append_toArray, List.nil_append, List.cons_append]
  gi_wp2_with (gi_at_call 106; refine (each_in F (n - 1) h106 hro _ _).mono ?_; rintro e w' ⟨rfl, rfl⟩)
  have bO := Boxed.new w 49 (.slice none 0 0)
  have bN := Boxed.new (w.alloc (.cells #[.slice none 0 0] 49)) 24 (.pointer (some ⟨g, 0, none⟩))
  rw [World.size_alloc] at bN
  have hB0 : Below w.heap.size w ((w.alloc (.cells #[.slice none 0 0] 49)).alloc (.cells #[.pointer (some ⟨g, 0, none⟩)] 24)) := ((Below.refl _ w).alloc (Nat.le_refl _) _).alloc (by simp) _
  refine wpIn_rangeFunc_ownG hro h1 (gf := 160) (lb := #[.pointer (some ⟨w.heap.size + 1, 0, none⟩)]) rfl h160 (enters_of Try.func160 (by kernel_rfl) rfl)
    (each_stops F (n - 1) h160 hro (by omega) (w.heap.size + 1) w.heap.size g M _ (by simp) bN.cell (hI.below hB0)) belowK_t (belowK_b (by simp; omega)) (Below.refl _ _) (fun _ => rfl)
    (fun pre W => (∃ v, Boxed W w.heap.size 49 v ∧ W.ownsRow w.heap.size 3 1 v pre.length (allL pre) ∧ True) ∧ Below w.heap.size w W)
    (fun _ _ _ => False)
    (OwnFrom.and (Own.from (holdsRow_own w.heap.size w.heap.size 49 3 1 (fun pre => pre.length) (fun pre => allL pre) (fun _ _ => True)) _) (ownFrom_below (Nat.le_refl _) (by simp; omega)))
    (fun _ _ _ _ _ hs _ _ => hs)
    ⟨⟨_, bO.alloc _, World.ownsRow_nil _ _ _ _, trivial⟩, hB0⟩
    (fun x => { tmps := #[.pointer (some ⟨g, 0, none⟩), undef, .slice none 0 0, .pointer (some ⟨w.heap.size, 0, none⟩), .int .i64 (x.1 : Int), .pointer (some ⟨g, 0, none⟩), .func (.func 160) #[] #[.pointer (some ⟨w.heap.size + 1, 0, none⟩)], .int .i64 (x.1 : Int), .agg #[.int .i64 x.2.seg, .int .i64 x.2.frm, .int .i64 x.2.len, .int .i64 x.2.ver], undef, undef, undef, undef, undef], defers := [] }) ?assign ?body ?done ?stop
  case assign =>
    intro l x W K hK
    unfold encP
    gi_wp2
    exact hK
  case body =>
    rintro l pre x W ⟨⟨v, hv, hrow, -⟩, hB⟩ hlt
    have hc := hv.cell
    gi_wp2_with (gi_at_builtin; refine wpListIn_append_own _ rfl _ _ 49 rfl w.heap.size 3 i0 (.int .i64 0) 1 8 Try.underlying49 hi hz0 hz1 hz2 rfl (by decide) _ _ _ rfl (hrow.alloc _) ⟨W.heap.size, 0, none⟩ 1 1 [.int .i64 (x.1 : Int)] rfl rfl (cell_one_new _ _ _) (by simp [Value.oneCell']) (by simp only [maxLen]; omega) (by omega) (by have := hB.size; simp; omega) ?_; intro v' w1 hown' hgrow _; obtain ⟨g', cap', rfl⟩ := ownsRow_succ hown'; obtain ⟨hv1, hv2, hr2, hk2, hb2⟩ := hv.appended (by decide) hrow hB.size (Nat.le_refl _) hown' hgrow; have hc1 := hv1.cell; have hf1 := hv1.frozen)
    exact ⟨hk2.from _, hb2, ⟨_, hv2, by rw [allL_snoc]; simpa using hr2, trivial⟩, hB.trans hb2⟩
  case done =>
    rintro D ys W hD rfl ⟨⟨v, hv, hrow, -⟩, hB⟩ hK
    have hc := hv.cell
    gi_wp2
    refine ⟨by simp, .inl ⟨_, _, rfl, run_takeDeferred hK, ?_⟩⟩
    exact ⟨_, results_tmp rfl _ _ _, v, rfl, ownsRow_putObj hrow _ hK rfl, hB.trans (belowK_b (w := w) (Nat.le_refl _) W D _ _ (by simp at hD; omega) hK rfl rfl)⟩
  case stop =>
    rintro D c pre W _ _ h _
    exact h.elim

def spotCells (x : Spot) : Array Value := #[.int .i64 x.seg, .int .i64 x.frm, .int .i64 x.len, .int .i64 x.ver]
theorem obj_kept {X Y : World} {row : Option Nat} {B : Nat} {cs : Array Value} {t : TypeId} {f : Nat × Nat} (h : X.heap[B]? = some (.cells cs t f)) (hg : X.grownBy Y row) (hr : ∀ r, row = some r → ∃ o : Obj, X.heap[r]? = some o ∧ o.isCells = false) : Y.heap[B]? = some (.cells cs t f) := by
  refine (hg.block B (obj_lt h) (fun e => ?_)).trans h
  obtain ⟨o, ho, hc⟩ := hr B e.symm
  rw [h] at ho
  cases ho
  cases hc
/-- How many bytes are live in a segment. -/
def liveW (s : Int) (l : List (Nat × Spot)) : Int := l.foldl (fun a p => if p.2.seg = s then wrap64 (a + p.2.len) else a) 0
theorem liveW_snoc (s : Int) (l : List (Nat × Spot)) (x : Nat × Spot) : liveW s (l ++ [x]) = if x.2.seg = s then wrap64 (liveW s l + x.2.len) else liveW s l := by simp [liveW]
set_option maxRecDepth 100000 in
set_option maxHeartbeats 2000000 in
theorem live_in (F : Fence) (n : Nat) (h33 : F.fn 33) (h106 : F.fn 106) (h160 : F.fn 160) (hro : F.round = none) (hn : 3 ≤ n) (g : Nat) (M : Nat → Spot) (s : Int) (w : World) (hI : IM w g M) :
    CallsIn F n Try.prog 33 #[.pointer (some ⟨g, 0, none⟩), .int .i64 s] w fun e W' => e = .returned (.int .i64 (liveW s (entUp M 256))) ∧ Below w.heap.size w W' := by
  have h1 : 1 ≤ n := by omega
  refine callsIn_of_wp_marks Try.func33 rfl h33 ?_ hro
  simp only [Try.ntmps33, List.size_toArray, List.length_cons, List.length_nil, Nat.reduceAdd, Nat.reduceSub, Array.replicate_succ, Array.replicate_zero, List.push_toArray, List.append_toArray, List.nil_append, List.cons_append]
  gi_wp2_with (gi_at_call 106; refine (each_in F (n - 1) h106 hro _ _).mono ?_; rintro e w' ⟨rfl, rfl⟩)
  have bS := ((Boxed.new w 3 (.int .i64 s)).alloc (.cells #[.int .i64 0] 3)).alloc (.cells #[.pointer (some ⟨g, 0, none⟩)] 24)
  have bN := (Boxed.new (w.alloc (.cells #[.int .i64 s] 3)) 3 (.int .i64 0)).alloc (.cells #[.pointer (some ⟨g, 0, none⟩)] 24)
  have bA := Boxed.new ((w.alloc (.cells #[.int .i64 s] 3)).alloc (.cells #[.int .i64 0] 3)) 24 (.pointer (some ⟨g, 0, none⟩))
  simp only [World.size_alloc] at bN bA
  have hB0 : Below w.heap.size w (((w.alloc (.cells #[.int .i64 s] 3)).alloc (.cells #[.int .i64 0] 3)).alloc (.cells #[.pointer (some ⟨g, 0, none⟩)] 24)) := (((Below.refl _ w).alloc (Nat.le_refl _) _).alloc (by simp) _).alloc (by simp; omega) _
  have hsz : (((w.alloc (.cells #[.int .i64 s] 3)).alloc (.cells #[.int .i64 0] 3)).alloc (.cells #[.pointer (some ⟨g, 0, none⟩)] 24)).heap.size = w.heap.size + 3 := by simp
  obtain ⟨W0, hW0⟩ : ∃ W0, ((w.alloc (.cells #[.int .i64 s] 3)).alloc (.cells #[.int .i64 0] 3)).alloc (.cells #[.pointer (some ⟨g, 0, none⟩)] 24) = W0 := ⟨_, rfl⟩
  rw [hW0] at bS bN bA hB0 hsz ⊢
  clear hW0
  refine wpIn_rangeFunc_ownH hro h1 (gf := 160) (lb := #[.pointer (some ⟨w.heap.size + 1 + 1, 0, none⟩)]) rfl h160 (enters_of Try.func160 (by kernel_rfl) rfl)
    (each_stops F (n - 1) h160 hro (by omega) (w.heap.size + 1 + 1) w.heap.size g M W0 (by omega) bA.cell (hI.below hB0)) belowK_t (belowK_b (by omega)) (Below.refl _ _) (fun _ => rfl)
    (fun pre W => (Boxed W (w.heap.size + 1) 3 (.int .i64 (liveW s pre)) ∧ Boxed W w.heap.size 3 (.int .i64 s)) ∧ Below w.heap.size w W)
    (fun _ _ _ => False)
    (OwnFrom.and (OwnFrom.and (Own.from (boxed_own _ _ _) _) (Own.from (boxed_own _ _ _) _)) (ownFrom_below (Nat.le_refl _) (by omega)))
    (fun _ _ _ _ _ hs _ _ => hs)
    ⟨⟨bN, bS⟩, hB0⟩
    (fun x a' W => ∃ Bx, W.heap[Bx]? = some (.cells (spotCells x.2) 27 (0, 0)) ∧ a' = { tmps := #[.pointer (some ⟨g, 0, none⟩), .int .i64 s, undef, .pointer (some ⟨w.heap.size, 0, none⟩), .int .i64 0, .pointer (some ⟨w.heap.size + 1, 0, none⟩), undef, .pointer (some ⟨Bx, 0, none⟩), .pointer (some ⟨g, 0, none⟩), .func (.func 160) #[] #[.pointer (some ⟨w.heap.size + 1 + 1, 0, none⟩)], .int .i64 (x.1 : Int), .agg (spotCells x.2), undef, undef, undef, undef, undef, undef, undef, undef, undef], defers := [] })
    (fun x a' _ X Y row hs hg hr => by obtain ⟨Bx, h2, h3⟩ := hs; exact ⟨Bx, obj_kept h2 hg (fun r e => (hr r e).2), h3⟩)
    ?assign ?body ?done ?stop
  case assign =>
    rintro l pre x W K ⟨⟨bN1, bS1⟩, hB1⟩ hK
    unfold encP
    gi_wp2
    exact hK _ _ ((KeepsOthers.alloc _ _).from _) ((Below.refl _ W).alloc hB1.size _) ⟨⟨bN1.alloc _, bS1.alloc _⟩, hB1.alloc hB1.size _⟩ ⟨W.heap.size, obj_new _ _, rfl⟩
  case body =>
    rintro l pre x a' W hl ⟨r, hr⟩ ⟨⟨bN1, bS1⟩, hB1⟩ ⟨Bx, hx, rfl⟩ hlt
    have x0 := obj_cell hx 0
    have x2 := obj_cell hx 2
    simp only [spotCells, List.getElem?_toArray, List.getElem?_cons_zero, List.getElem?_cons_succ] at x0 x2
    have cS := bS1.cell
    have cN := bN1.cell
    have fN := bN1.frozen
    by_cases hs : x.2.seg = s
    · subst hs
      gi_wp2
      exact ⟨(KeepsOthers.setCell _ _ _).from _, (Below.refl w.heap.size W).setCell (p := ⟨w.heap.size + 1, 0, none⟩) (by simp) _, ⟨by rw [liveW_snoc, if_pos rfl]; exact bN1.set _, bS1.kept (grownBy_setCell' _ _ _) (by simp)⟩, hB1.setCell (p := ⟨w.heap.size + 1, 0, none⟩) (by simp) _⟩
    · have hs' : (x.2.seg == s) = false := by simp [hs]
      gi_wp2
      exact ⟨KeepsFrom.refl _ _, Below.refl _ _, ⟨by rw [liveW_snoc, if_neg hs]; exact bN1, bS1⟩, hB1⟩
  case done =>
    rintro D ys W hD rfl ⟨⟨bN1, bS1⟩, hB1⟩ hK
    have cN := bN1.cell
    gi_wp2
    refine ⟨by simp, .inl ⟨_, _, rfl, run_takeDeferred hK, ?_⟩⟩
    exact ⟨_, results_tmp rfl _ _ _, rfl, hB1.trans (belowK_b (w := w) (Nat.le_refl _) W D _ _ (by omega) hK rfl rfl)⟩
  case stop =>
    rintro D c pre W _ _ h _
    exact h.elim
end Go.Proofs.Ytljmaicobafgkaa
end
