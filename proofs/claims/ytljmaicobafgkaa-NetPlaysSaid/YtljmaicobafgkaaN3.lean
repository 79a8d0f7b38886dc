/- A join of 6 texts of this claim: Ord, Ord2, Nt1, Ord3, Ord5, Nt2. Conditions: none of their own. -/
import Derived.Test.YtljmaicobafgkaaN0
import Derived.RegionTactic
import Derived.Test.YtljmaicobafgkaaN2
section
/- A region that draws its order, by what each operation yields: whatever order, number i yields a value of V i, and the world stays one of S. -/
namespace Go.Proofs.Ytljmaicobafgkaa
open Go.RowKit

section
variable {P : Program} {ops : Array Oper} {Q : Exit → Act → World → Prop}

/-- An operation waits for earlier ones alone. -/
def orderedB (ops : Array Oper) : Bool := (List.range ops.size).all fun i => match ops[i]? with | some o => o.after.all fun e => !Region.binds .any e || decide (e.on < i) | none => true
theorem orderedB_spec (h : orderedB ops = true) {i : Nat} {o : Oper} (ho : ops[i]? = some o) : ∀ e ∈ o.after, Region.binds .any e = true → e.on < i := fun e he hb => by
  have h1 := List.all_eq_true.1 h i (List.mem_range.2 (Array.getElem?_eq_some_iff.1 ho).1)
  rw [ho] at h1
  have h2 := Array.all_eq_true_iff_forall_mem.1 h1 e he
  simp only [hb, Bool.not_true, Bool.false_or, decide_eq_true_eq] at h2
  exact h2
theorem all_listed (h : orderedB ops = true) {l : Array Bool} (hl : l.size = ops.size) (hr : Region.ready .any ops l = []) : ∀ i, i < ops.size → l.getD i false = true := by
  intro i
  induction i using Nat.strongRecOn with
  | _ i ih =>
    intro hi
    rcases hc : l.getD i false with _ | _
    · exfalso
      have ho : ops[i]? = some ops[i] := Array.getElem?_eq_getElem hi
      have hm : i ∈ Region.ready .any ops l := mem_ready.2 ⟨by
        have hi2 : i < l.size := by omega
        simp [Array.getElem?_eq_getElem hi2] at hc ⊢
        exact hc, _, ho, fun e he hb => ih e.on (orderedB_spec h ho e he hb) (by have := orderedB_spec h ho e he hb; omega)⟩
      rw [hr] at hm
      cases hm
    · rfl
theorem wpAny_inv (J : Array Bool → Act → World → Prop) (hord : orderedB ops = true)
    (hdone : ∀ l a w, l.size = ops.size → J l a w → (∀ i, i < ops.size → l.getD i false = true) → Q .normal a w)
    (hstep : ∀ i o, ops[i]? = some o → ∀ l a w, J l a w → l.getD i true = false → (∀ e ∈ o.after, Region.binds .any e = true → l.getD e.on false = true) →
      ∀ K : Act → World → Prop, (∀ a' w', J (l.setIfInBounds i true) a' w' → K a' w') → if Region.wanted o (yielded ops a.tmps) = true then Oper.wp P o a w K Q else K (a.put o.dst undef) w) :
    ∀ (fuel : Nat) (l : Array Bool) (a : Act) (w : World), l.size = ops.size → l.toList.count false ≤ fuel → J l a w → wpAny P .any ops Q fuel l a w
  | 0, l, a, w, hl, hc, hJ => by
    have hr : Region.ready .any ops l = [] := by
      rcases e : Region.ready .any ops l with _ | ⟨i, r⟩
      · rfl
      · exfalso
        have hi : i ∈ Region.ready .any ops l := by rw [e]; exact List.mem_cons_self
        have h0 := (mem_ready.1 hi).1
        have hi2 : i < l.size := by
          rcases Nat.lt_or_ge i l.size with h' | h'
          · exact h'
          · simp [Array.getElem?_eq_none h'] at h0
        simp [Array.getElem?_eq_getElem hi2] at h0
        have : false ∈ l.toList := by
          rw [← h0]
          exact Array.getElem_mem_toList hi2
        have := List.count_pos_iff.2 this
        omega
    exact ⟨hr, hdone l a w hl hJ (all_listed hord hl hr)⟩
  | fuel + 1, l, a, w, hl, hc, hJ => by
    refine ⟨fun hr => hdone l a w hl hJ (all_listed hord hl hr), fun i hi => ?_⟩
    obtain ⟨h0, o, ho, hdep⟩ := mem_ready.1 hi
    refine wpOp_step ho fun K hK => hstep i o ho l a w hJ h0 hdep K fun a' w' h' => hK a' w' ?_
    refine wpAny_inv J hord hdone hstep fuel _ a' w' (by simpa using hl) ?_ h'
    have hi2 : i < l.size := by
      rcases Nat.lt_or_ge i l.size with h' | h'
      · exact h'
      · simp [Array.getElem?_eq_none h'] at h0
    have h1 : l[i] = false := by simpa [Array.getElem?_eq_getElem hi2] using h0
    have h2 : l.toList[i]'(by simpa using hi2) = false := h1
    have hm : false ∈ l.toList := by rw [← h1]; exact Array.getElem_mem_toList hi2
    have hp := List.count_pos_iff.2 hm
    rw [Array.toList_setIfInBounds, List.count_set (by simpa using hi2), h2]
    simp only [BEq.rfl, if_true, Bool.true_beq, Bool.false_eq_true, if_false]
    omega

theorem wanted_none {o : Oper} (h : o.guard = none) (f : Nat → Option Bool) : Region.wanted o f = true := by unfold Region.wanted; rw [h]
/-- What is asked of each operation, one by one. -/
def Steps (P : Program) (ops : Array Oper) (Q : Exit → Act → World → Prop) (A : (Nat → Value) → Act) (S : World → Prop) (V : Nat → Value → World → Prop) : List Oper → Nat → Prop
  | [], _ => True
  | o :: l, i => (∀ x w, S w → (∀ e ∈ o.after.toList.filter (Region.binds .any), V e.on (x e.on) w) → ∀ K : Act → World → Prop,
      (∀ v w', Below w.heap.size w w' → V i v w' → K ((A x).put o.dst v) w') → Region.wanted o (yielded ops (A x).tmps) = true ∧ Oper.wp P o (A x) w K Q) ∧ Steps P ops Q A S V l (i + 1)
theorem Steps.get {A : (Nat → Value) → Act} {S : World → Prop} {V : Nat → Value → World → Prop} : ∀ (l : List Oper) (k : Nat), Steps P ops Q A S V l k → ∀ (i : Nat) (o : Oper), l[i]? = some o →
    ∀ x w, S w → (∀ e ∈ o.after.toList.filter (Region.binds .any), V e.on (x e.on) w) → ∀ K : Act → World → Prop,
      (∀ v w', Below w.heap.size w w' → V (k + i) v w' → K ((A x).put o.dst v) w') → Region.wanted o (yielded ops (A x).tmps) = true ∧ Oper.wp P o (A x) w K Q
  | [], _, _, _, _, h => by simp at h
  | _ :: _, _, hs, 0, _, h => by
    simp only [List.getElem?_cons_zero, Option.some.injEq] at h
    subst h
    exact hs.1
  | _ :: l, k, hs, i + 1, o, h => by
    have := Steps.get l (k + 1) hs.2 i o (by simpa using h)
    rw [show k + 1 + i = k + (i + 1) from by omega] at this
    exact this
def Puts (A : (Nat → Value) → Act) : List Oper → Nat → Prop
  | [], _ => True
  | o :: l, i => (∀ x v, (A x).put o.dst v = A (fun j => if j = i then v else x j)) ∧ Puts A l (i + 1)
theorem Puts.get {A : (Nat → Value) → Act} : ∀ (l : List Oper) (k : Nat), Puts A l k → ∀ (i : Nat) (o : Oper), l[i]? = some o → ∀ x v, (A x).put o.dst v = A (fun j => if j = k + i then v else x j)
  | [], _, _, _, _, h => by simp at h
  | _ :: _, _, hs, 0, _, h => by
    simp only [List.getElem?_cons_zero, Option.some.injEq] at h
    subst h
    exact hs.1
  | _ :: l, k, hs, i + 1, o, h => by
    have := Puts.get l (k + 1) hs.2 i o (by simpa using h)
    rw [show k + 1 + i = k + (i + 1) from by omega] at this
    exact this

theorem wp_region_vals {id : Nat} (A : (Nat → Value) → Act) (x0 : Nat → Value) (S : World → Prop) (V : Nat → Value → World → Prop) {a : Act} {w : World}
    (hm : P.follows .mixedOrders = true) (hord : orderedB ops = true) (ha : a = A x0)
    (hS : ∀ w w', Below w.heap.size w w' → S w → S w') (hV : ∀ i v w w', Below w.heap.size w w' → V i v w → V i v w') (h0 : S w.drew)
    (hput : Puts A ops.toList 0) (hstep : Steps P ops Q A S V ops.toList 0)
    (hdone : ∀ x w', S w' → (∀ i, i < ops.size → V i (x i) w') → Q .normal (A x) w') : (Code.region id ops true).wp P Q a w := by
  subst ha
  refine wp_region_any hm (wpAny_inv (fun l a w => ∃ x, a = A x ∧ S w ∧ ∀ i, l.getD i false = true → V i (x i) w) hord ?_ ?_ _ _ _ _ (by simp) ?_ ⟨x0, rfl, h0, ?_⟩)
  · rintro l a w _ ⟨x, rfl, hs, hv⟩ hall
    exact hdone x w hs fun i hi => hv i (hall i hi)
  · rintro i o ho l a w ⟨x, rfl, hs, hv⟩ h0 hdep K hK
    have hl : ops.toList[i]? = some o := by rw [Array.getElem?_toList]; exact ho
    have hg : Region.wanted o (yielded ops (A x).tmps) = true ∧ Oper.wp P o (A x) w K Q := by
     refine Steps.get ops.toList 0 hstep i o hl x w hs (fun e he => ?_) K fun v w' hb hv' => hK _ _ ⟨fun j => if j = 0 + i then v else x j, Puts.get ops.toList 0 hput i o hl x v, hS _ _ hb hs, fun j hj => ?_⟩
     · rw [List.mem_filter] at he
       exact hv e.on (hdep e (by simpa using he.1) he.2)
     · by_cases hji : j = i
       · subst hji
         show V j (if j = 0 + j then v else x j) w'
         rw [Nat.zero_add, if_pos rfl]
         rw [Nat.zero_add] at hv'
         exact hv'
       · show V j (if j = 0 + i then v else x j) w'
         rw [Nat.zero_add, if_neg hji]
         rw [getD_set_ne false (Ne.symm hji)] at hj
         exact hV _ _ _ _ hb (hv j hj)
    rw [if_pos hg.1]
    exact hg.2
  · simp
  · intro i hi
    exfalso
    simp [Array.getElem?_replicate] at hi
    split at hi <;> simp at hi
end
end Go.Proofs.Ytljmaicobafgkaa
end
section
/- Words over Ord: a world in which a block is kept; a row of the call's own over a frame. -/
namespace Go.Proofs.Ytljmaicobafgkaa
open Go.RowKit

/-- Block g holds cs, and what lay below B is as it was. -/
def Kept (B g : Nat) (cs : Array Value) (t : TypeId) (w0 w : World) : Prop := Below B w0 w ∧ B ≤ w.heap.size ∧ w.heap[g]? = some (.cells cs t (0, 0))
theorem Kept.drew {B g : Nat} {cs : Array Value} {t : TypeId} {w0 w : World} (h : Kept B g cs t w0 w) : Kept B g cs t w0 w.drew := ⟨h.1.drew, h.2.1, h.2.2⟩
theorem Kept.on {B g : Nat} {cs : Array Value} {t : TypeId} {w0 w w' : World} (hb : Below w.heap.size w w') (h : Kept B g cs t w0 w) : Kept B g cs t w0 w' :=
  ⟨h.1.trans (hb.mono h.2.1), Nat.le_trans h.2.1 hb.size, obj_below h.2.2 hb⟩
theorem Kept.self {g : Nat} {cs : Array Value} {t : TypeId} {w : World} (h : w.heap[g]? = some (.cells cs t (0, 0))) : Kept w.heap.size g cs t w w := ⟨Below.refl _ _, Nat.le_refl _, h⟩
theorem Kept.cell {B g : Nat} {cs : Array Value} {t : TypeId} {w0 w : World} (h : Kept B g cs t w0 w) (i : Nat) : w.cell? ⟨g, i, none⟩ = cs[i]? := obj_cell h.2.2 i
theorem Kept.lt {B g : Nat} {cs : Array Value} {t : TypeId} {w0 w : World} (h : Kept B g cs t w0 w) : g < w.heap.size := obj_lt h.2.2
theorem row_fr {F : Nat → Prop} {w w' : World} {B : Nat} {e : TypeId} {size : Nat} {v : Value} {n : Nat} {xs : List Value} (h : w.ownsRow B e size v n xs) (hf : Fr F w w') (hn : ∀ k, v.ownBlock = some k → ¬ F k) : w'.ownsRow B e size v n xs := by
  refine ⟨h.1, h.2.imp id ?_⟩
  rintro ⟨g, cap, cur, rfl, hb, hh, hr⟩
  exact ⟨g, cap, cur, rfl, hb, hf.obj hh (hn g rfl), hr⟩
theorem row_below {w w' : World} {B : Nat} {e : TypeId} {size : Nat} {v : Value} {n : Nat} {xs : List Value} (h : w.ownsRow B e size v n xs) (hb : Below w.heap.size w w') : w'.ownsRow B e size v n xs :=
  row_fr h (Fr.of_below hb) (fun _ _ hf => hf)
theorem row_slice {w : World} {B : Nat} {e : TypeId} {size : Nat} {v : Value} {n : Nat} {xs : List Value} (h : w.ownsRow B e size v n xs) : ∃ A c, v = .slice A n c := by
  rcases h.2 with ⟨rfl, rfl⟩ | ⟨g, cap, cur, rfl, _⟩
  · exact ⟨_, _, rfl⟩
  · exact ⟨_, _, rfl⟩
theorem row_typed {w : World} {B : Nat} {e : TypeId} {size : Nat} {v : Value} {n : Nat} {xs : List Value} (h : w.ownsRow B e size v n xs) {k : Nat} (hk : v.ownBlock = some k) : B ≤ k ∧ ∃ cs, w.heap[k]? = some (.cells cs e (0, 0)) := by
  rcases h.2 with ⟨rfl, rfl⟩ | ⟨g, cap, cur, rfl, hb, hh, _⟩
  · cases hk
  · cases hk
    exact ⟨hb, cur, hh⟩
end Go.Proofs.Ytljmaicobafgkaa
end
section
/- Chapter 13, net: what a net is; its small functions. -/
namespace Go.Proofs.Ytljmaicobafgkaa
open Go.RowKit

/-- Bytes under way, and their link. -/
structure Pcl where
  a : Int
  b : Int
  s : List UInt8
def Pcl.cells (p : Pcl) : List Value := [.int .i64 p.a, .int .i64 p.b, .string ⟨p.s.toArray⟩]
def wayVals (l : List Pcl) : List Value := l.flatMap Pcl.cells
structure NetS where
  n : Int
  way : List Pcl
  cuts : Int × Int → Bool
def lkey (p : Int × Int) : Value := .agg #[.int .i64 p.1, .int .i64 p.2]
def CM (w : World) (c : Nat) (C : Int × Int → Bool) : Prop := ∃ es clock, w.heap[c]? = some (.map es clock) ∧ ∃ L : List (Int × Int), es.toList.map (fun e => (e.key, e.val)) = L.map (fun p => (lkey p, Value.bool true)) ∧ L.Nodup ∧ ∀ p, C p = decide (p ∈ L)
/-- The block g is a net; its row lies in v, its map in c. -/
def NT (w : World) (g : Nat) (v : Value) (c : Nat) (N : NetS) : Prop :=
  w.heap[g]? = some (.cells #[.int .i64 N.n, v, .map (some c)] 209 (0, 0)) ∧ w.ownsRow 0 214 3 v N.way.length (wayVals N.way) ∧ CM w c N.cuts
theorem CM.below {w w' : World} {c : Nat} {L : Int × Int → Bool} (h : CM w c L) (hb : Below w.heap.size w w') : CM w' c L := by
  obtain ⟨es, k, h1, h2⟩ := h
  exact ⟨es, k, obj_below h1 hb, h2⟩
theorem CM.fr {F : Nat → Prop} {w w' : World} {c : Nat} {L : Int × Int → Bool} (h : CM w c L) (hf : Fr F w w') (hc : ¬ F c) : CM w' c L := by
  obtain ⟨es, k, h1, h2⟩ := h
  exact ⟨es, k, hf.obj h1 hc, h2⟩
theorem CM.lt {w : World} {c : Nat} {L : Int × Int → Bool} (h : CM w c L) : c < w.heap.size := by
  obtain ⟨es, k, h1, h2⟩ := h
  exact obj_lt h1
theorem row_lt {w : World} {B : Nat} {e : TypeId} {size : Nat} {v : Value} {n : Nat} {xs : List Value} (h : w.ownsRow B e size v n xs) {k : Nat} (hk : v.ownBlock = some k) : k < w.heap.size := by
  rcases h.2 with ⟨rfl, _⟩ | ⟨g, cap, cur, rfl, h2, h3, h4⟩
  · cases hk
  · cases hk
    exact obj_lt h3
theorem NT.below {w w' : World} {g c : Nat} {v : Value} {N : NetS} (h : NT w g v c N) (hb : Below w.heap.size w w') : NT w' g v c N := ⟨obj_below h.1 hb, row_below h.2.1 hb, h.2.2.below hb⟩
theorem NT.fr {F : Nat → Prop} {w w' : World} {g c : Nat} {v : Value} {N : NetS} (h : NT w g v c N) (hf : Fr F w w') (hg : ¬ F g) (hc : ¬ F c) (hv : ∀ k, v.ownBlock = some k → ¬ F k) : NT w' g v c N := ⟨hf.obj h.1 hg, row_fr h.2.1 hf hv, h.2.2.fr hf hc⟩
theorem NT.row_ne {w : World} {g c : Nat} {v : Value} {N : NetS} (h : NT w g v c N) : v.ownBlock ≠ some g := by
  intro e
  rcases h.2.1.2 with ⟨rfl, _⟩ | ⟨g', cap, cur, rfl, h2, h3, h4⟩
  · cases e
  · cases e
    rw [h.1] at h3
    simp at h3
theorem NT.row_ne_map {w : World} {g c : Nat} {v : Value} {N : NetS} (h : NT w g v c N) : v.ownBlock ≠ some c := by
  intro e
  obtain ⟨es, k, hc, _⟩ := h.2.2
  rcases h.2.1.2 with ⟨rfl, _⟩ | ⟨g', cap, cur, rfl, h2, h3, h4⟩
  · cases e
  · cases e
    rw [hc] at h3
    cases h3
theorem NT.map_ne {w : World} {g c : Nat} {v : Value} {N : NetS} (h : NT w g v c N) : ¬ g = c := by
  rintro rfl
  obtain ⟨es, k, hc, _⟩ := h.2.2
  rw [h.1] at hc
  cases hc
theorem NT.slice {w : World} {g c : Nat} {v : Value} {N : NetS} (h : NT w g v c N) : ∃ A cap, v = .slice A N.way.length cap := by
  rcases h.2.1.2 with ⟨rfl, h0⟩ | ⟨g', cap, cur, rfl, h2, h3, h4⟩
  · exact ⟨none, 0, by rw [h0]⟩
  · exact ⟨_, _, rfl⟩
def nodeP (N : NetS) (i : Int) : Prop := 0 ≤ i ∧ i < N.n
instance (N : NetS) (i : Int) : Decidable (nodeP N i) := by unfold nodeP; infer_instance
set_option maxRecDepth 100000 in
theorem node_nil (i : Int) (w : World) : Calls Try.prog 134 #[.pointer none, .int .i64 i] w fun e w' => e = .returned (.bool false) ∧ w' = w := by
  go_enter Try.func134, Try.ntmps134
  go_wp2
  go_ret
  exact ⟨rfl, rfl⟩
set_option maxRecDepth 100000 in
theorem node_any {w : World} {g c : Nat} {v : Value} {N : NetS} (h : NT w g v c N) (i : Int) : Calls Try.prog 134 #[.pointer (some ⟨g, 0, none⟩), .int .i64 i] w fun e w' => e = .returned (.bool (decide (nodeP N i))) ∧ w' = w := by
  have c0 := obj_cell h.1 0
  simp only [List.getElem?_toArray, List.getElem?_cons_zero] at c0
  clear h
  by_cases h0 : 0 ≤ i
  · by_cases h1 : i < N.n
    · rw [decide_eq_true (p := nodeP N i) ⟨h0, h1⟩]
      go_enter Try.func134, Try.ntmps134
      go_wp2
      go_ret
      exact ⟨rfl, rfl⟩
    · rw [decide_eq_false (p := nodeP N i) (fun h => h1 h.2)]
      go_enter Try.func134, Try.ntmps134
      go_wp2
      go_ret
      exact ⟨rfl, rfl⟩
  · rw [decide_eq_false (p := nodeP N i) (fun h => h0 h.1)]
    go_enter Try.func134, Try.ntmps134
    go_wp2
    go_ret
    exact ⟨rfl, rfl⟩
theorem obj_new' (w : World) (a o : Obj) : ((w.alloc a).alloc o).heap[w.heap.size + 1]? = some o := by
  have := obj_new (w.alloc a) o
  rwa [World.size_alloc] at this
def lnk (a b : Int) : Int × Int := (min a b, max a b)
theorem info211 : (Try.prog.info? 211).map (·.size) = some 2 := by kernel_rfl
set_option maxRecDepth 100000 in
theorem between_any (a b : Int) (w : World) : Calls Try.prog 135 #[.int .i64 a, .int .i64 b] w fun e w' => e = .returned (lkey (lnk a b)) ∧ Below w.heap.size w w' := by
  rcases Int.lt_trichotomy a b with h | rfl | h
  · rw [show lnk a b = (a, b) from by unfold lnk; rw [Int.min_eq_left (by omega), Int.max_eq_right (by omega)]]
    go_enter Try.func135, Try.ntmps135
    go_wp2
    refine bodyPost_ret (res_c rfl _ _ w.heap.size 211 _ (0, 0) _ rfl (obj_new _ _) Try.underlying211 rfl info211) rfl ⟨rfl, (Below.refl _ _).alloc (Nat.le_refl _) _⟩
  · rw [show lnk a a = (a, a) from by unfold lnk; rw [Int.min_self, Int.max_self]]
    go_enter Try.func135, Try.ntmps135
    go_wp2
    refine bodyPost_ret (res_c rfl _ _ w.heap.size 211 _ (0, 0) _ rfl (obj_new _ _) Try.underlying211 rfl info211) rfl ⟨rfl, (Below.refl _ _).alloc (Nat.le_refl _) _⟩
  · rw [show lnk a b = (b, a) from by unfold lnk; rw [Int.min_eq_right (by omega), Int.max_eq_left (by omega)]]
    go_enter Try.func135, Try.ntmps135
    go_wp2
    refine bodyPost_ret (res_c rfl _ _ w.heap.size 211 _ (0, 0) _ rfl (obj_new _ _) Try.underlying211 rfl info211) rfl ⟨rfl, (Below.refl _ _).alloc (Nat.le_refl _) _⟩
set_option maxRecDepth 100000 in
theorem new13_any (n : Int) (w : World) : Calls Try.prog 67 #[.int .i64 n] w fun e w' => e = .returned (.pointer (some ⟨w.heap.size + 1, 0, none⟩)) ∧ NT w' (w.heap.size + 1) (.slice none 0 0) w.heap.size ⟨min (max n 1) 64, [], fun _ => false⟩ ∧ Below w.heap.size w w' := by
  have hmk : (Instr.makeMap 206 none).run Try.prog w = .ok (.map (some w.heap.size)) (w.alloc (.map #[] 0)) := rfl
  have HB : ∀ o, Hid (Below w.heap.size w ((w.alloc (.map #[] 0)).alloc o)) := fun o => hide (((Below.refl w.heap.size w).alloc (Nat.le_refl _) _).alloc (by simp) _)
  by_cases h0 : n < 1
  · rw [show min (max n 1) 64 = 1 from by omega]
    go_enter Try.func67, Try.ntmps67
    go_wp2
    go_ret
    exact ⟨rfl, ⟨obj_new' w _ _, World.ownsRow_nil _ _ _ _, #[], 0, obj_alloc (obj_new _ _) _, [], rfl, List.nodup_nil, fun _ => by simp⟩, (HB _).out⟩
  · by_cases h1 : 64 < n
    · rw [show min (max n 1) 64 = 64 from by omega]
      go_enter Try.func67, Try.ntmps67
      go_wp2
      go_ret
      exact ⟨rfl, ⟨obj_new' w _ _, World.ownsRow_nil _ _ _ _, #[], 0, obj_alloc (obj_new _ _) _, [], rfl, List.nodup_nil, fun _ => by simp⟩, (HB _).out⟩
    · rw [show min (max n 1) 64 = n from by omega]
      go_enter Try.func67, Try.ntmps67
      go_wp2
      go_ret
      exact ⟨rfl, ⟨obj_new' w _ _, World.ownsRow_nil _ _ _ _, #[], 0, obj_alloc (obj_new _ _) _, [], rfl, List.nodup_nil, fun _ => by simp⟩, (HB _).out⟩
set_option maxRecDepth 100000 in
theorem waiting_nil (w : World) : Calls Try.prog 73 #[.pointer none] w fun e w' => e = .returned (.int .i64 0) ∧ w' = w := by
  go_enter Try.func73, Try.ntmps73
  go_wp2
  go_ret
  exact ⟨rfl, rfl⟩
set_option maxRecDepth 100000 in
theorem waiting_any {w : World} {g c : Nat} {v : Value} {N : NetS} (h : NT w g v c N) : Calls Try.prog 73 #[.pointer (some ⟨g, 0, none⟩)] w fun e w' => e = .returned (.int .i64 (N.way.length : Int)) ∧ w' = w := by
  obtain ⟨A, cap, rfl⟩ := h.slice
  have c1 := obj_cell h.1 1
  simp only [List.getElem?_toArray, List.getElem?_cons_zero, List.getElem?_cons_succ] at c1
  clear h
  go_enter Try.func73, Try.ntmps73
  go_wp2
  go_ret
  exact ⟨rfl, rfl⟩
end Go.Proofs.Ytljmaicobafgkaa
end
section
/- A region that draws its order and ends in one operation that waits for all others (a store, mostly). -/
namespace Go.Proofs.Ytljmaicobafgkaa
open Go.RowKit

section
variable {P : Program} {ops : Array Oper} {Q : Exit → Act → World → Prop}

/-- Each operation but the last one is waited for by a later one. -/
def lastB (ops : Array Oper) : Bool := (List.range (ops.size - 1)).all fun j => (List.range ops.size).any fun k => decide (j < k) && match ops[k]? with | some o => o.after.any fun e => Region.binds .any e && e.on == j | none => false
theorem lastB_spec (h : lastB ops = true) {j : Nat} (hj : j + 1 < ops.size) : ∃ k o, j < k ∧ ops[k]? = some o ∧ ∃ e ∈ o.after, Region.binds .any e = true ∧ e.on = j := by
  have h1 := List.all_eq_true.1 h j (List.mem_range.2 (by omega))
  obtain ⟨k, _, hk⟩ := List.any_eq_true.1 h1
  simp only [Bool.and_eq_true, decide_eq_true_eq] at hk
  rcases ho : ops[k]? with _ | o
  · rw [ho] at hk
    cases hk.2
  · rw [ho] at hk
    obtain ⟨e, he, hb⟩ := Array.any_eq_true'.1 hk.2
    simp only [Bool.and_eq_true, beq_iff_eq] at hb
    exact ⟨k, o, hk.1, ho, e, he, hb.1, hb.2⟩
/-- What has come up is closed under what it waits for. -/
def Closed (ops : Array Oper) (l : Array Bool) : Prop := ∀ (j : Nat) (o : Oper), ops[j]? = some o → l.getD j false = true → ∀ e ∈ o.after, Region.binds .any e = true → l.getD e.on false = true
theorem all_before (h : lastB ops = true) {l : Array Bool} (hc : Closed ops l) {o : Oper} (ho : ops[ops.size - 1]? = some o) (hd : ∀ e ∈ o.after, Region.binds .any e = true → l.getD e.on false = true) :
    ∀ (n j : Nat), ops.size - j ≤ n → j + 1 < ops.size → l.getD j false = true
  | 0, j, hn, hj => by omega
  | n + 1, j, hn, hj => by
    obtain ⟨k, ok, hjk, hok, e, he, hb, rfl⟩ := lastB_spec h hj
    have hks : k < ops.size := (Array.getElem?_eq_some_iff.1 hok).1
    rcases Nat.lt_or_ge (k + 1) ops.size with h1 | h1
    · exact hc k ok hok (all_before h hc ho hd n k (by omega) h1) e he hb
    · have : k = ops.size - 1 := by omega
      subst this
      rw [ho] at hok
      cases hok
      exact hd e he hb

/-- What is asked of each operation, one by one: S anew, its own value, and the others' values as they were. -/
def StepsG (P : Program) (ops : Array Oper) (Q : Exit → Act → World → Prop) (A : (Nat → Value) → Act) (x0 : Nat → Value) (S : (Nat → Value) → World → Prop) (V : Nat → Value → World → Prop) : List Oper → Nat → Prop
  | [], _ => True
  | o :: l, i => (∀ x w, S x w → x i = x0 i → (∀ e ∈ o.after.toList.filter (Region.binds .any), V e.on (x e.on) w) → ∀ K : Act → World → Prop,
      (∀ v w', S (fun j => if j = i then v else x j) w' → V i v w' → (∀ j u, j ≠ i → V j u w → V j u w') → K ((A x).put o.dst v) w') → Region.wanted o (yielded ops (A x).tmps) = true ∧ Oper.wp P o (A x) w K Q) ∧ StepsG P ops Q A x0 S V l (i + 1)
theorem StepsG.get {A : (Nat → Value) → Act} {x0 : Nat → Value} {S : (Nat → Value) → World → Prop} {V : Nat → Value → World → Prop} : ∀ (l : List Oper) (k : Nat), StepsG P ops Q A x0 S V l k → ∀ (i : Nat) (o : Oper), l[i]? = some o →
    ∀ x w, S x w → x (k + i) = x0 (k + i) → (∀ e ∈ o.after.toList.filter (Region.binds .any), V e.on (x e.on) w) → ∀ K : Act → World → Prop,
      (∀ v w', S (fun j => if j = k + i then v else x j) w' → V (k + i) v w' → (∀ j u, j ≠ k + i → V j u w → V j u w') → K ((A x).put o.dst v) w') → Region.wanted o (yielded ops (A x).tmps) = true ∧ Oper.wp P o (A x) w K Q
  | [], _, _, _, _, h => by simp at h
  | _ :: _, _, hs, 0, _, h => by
    simp only [List.getElem?_cons_zero, Option.some.injEq] at h
    subst h
    exact hs.1
  | _ :: l, k, hs, i + 1, o, h => by
    have := StepsG.get l (k + 1) hs.2 i o (by simpa using h)
    rw [show k + 1 + i = k + (i + 1) from by omega] at this
    exact this

theorem wp_region_end {id : Nat} (A : (Nat → Value) → Act) (x0 : Nat → Value) (S : (Nat → Value) → World → Prop) (V : Nat → Value → World → Prop) {a : Act} {w : World} (last : Oper) (l : List Oper)
    (hops : ops.toList = l ++ [last]) (hm : P.follows .mixedOrders = true) (hord : orderedB ops = true) (hlast : lastB ops = true) (ha : a = A x0) (h0 : S x0 w.drew)
    (hput : Puts A l 0) (hstep : StepsG P ops Q A x0 S V l 0)
    (hfin : ∀ x w', S x w' → (∀ i, i < l.length → V i (x i) w') → ∀ K : Act → World → Prop, (∀ a' w'', Q .normal a' w'' → K a' w'') → Region.wanted last (yielded ops (A x).tmps) = true ∧ Oper.wp P last (A x) w' K Q) :
    (Code.region id ops true).wp P Q a w := by
  subst ha
  have hsz : ops.size = l.length + 1 := by rw [← Array.length_toList, hops]; simp
  have hl1 : ops[ops.size - 1]? = some last := by
    rw [← Array.getElem?_toList, hops, hsz]
    simp
  refine wp_region_any hm (wpAny_inv (fun li a w => Closed ops li ∧ ((li.getD l.length false = false ∧ ∃ x, a = A x ∧ S x w ∧ (∀ i, i < l.length → li.getD i false = true → V i (x i) w) ∧ ∀ i, i < l.length → li.getD i false = false → x i = x0 i) ∨ (li.getD l.length false = true ∧ Q .normal a w))) hord ?_ ?_ _ _ _ _ (by simp) ?_ ⟨?_, .inl ⟨?_, x0, rfl, h0, ?_, fun _ _ _ => rfl⟩⟩)
  · rintro li a w _ ⟨_, h | h⟩ hall
    · have := hall l.length (by omega)
      rw [h.1] at this
      cases this
    · exact h.2
  · rintro i o ho li a w ⟨hcl, h⟩ h0 hdep K hK
    have hi2 : i < ops.size := (Array.getElem?_eq_some_iff.1 ho).1
    have hcl' : Closed ops (li.setIfInBounds i true) := fun j oj hoj hj e he hb => by
      by_cases hji : j = i
      · subst hji
        rw [ho] at hoj
        cases hoj
        exact getD_set_true (hdep e he hb)
      · rw [getD_set_ne false (Ne.symm hji)] at hj
        exact getD_set_true (hcl j oj hoj hj e he hb)
    have hil : i < li.size := by
      rcases Nat.lt_or_ge i li.size with h' | h'
      · exact h'
      · simp [Array.getElem?_eq_none h'] at h0
    rcases h with ⟨hlf, x, rfl, hs, hv, hu⟩ | ⟨hlt, hq⟩
    · by_cases hil1 : i = l.length
      · subst hil1
        have hol : o = last := by
          rw [hsz, Nat.add_sub_cancel] at hl1
          rw [hl1] at ho
          cases ho
          rfl
        subst hol
        have hall := all_before hlast hcl hl1 hdep
        have hg := hfin x w hs (fun j hj => hv j hj (hall ops.size j (by omega) (by omega))) K (fun a' w'' hq => hK _ _ ⟨hcl', .inr ⟨by simp [hil], hq⟩⟩)
        rw [if_pos hg.1]
        exact hg.2
      · have hil2 : i < l.length := by omega
        have hlo : l[i]? = some o := by
          have : ops.toList[i]? = some o := by rw [Array.getElem?_toList]; exact ho
          rw [hops, List.getElem?_append_left hil2] at this
          exact this
        have hg : Region.wanted o (yielded ops (A x).tmps) = true ∧ Oper.wp P o (A x) w K Q := by
          refine StepsG.get l 0 hstep i o hlo x w hs (by rw [Nat.zero_add]; exact hu i hil2 (by simpa [Array.getElem?_eq_getElem hil] using h0)) (fun e he => ?_) K fun v w' hs' hv' hst => hK _ _ ⟨hcl', .inl ⟨?_, fun j => if j = 0 + i then v else x j, Puts.get l 0 hput i o hlo x v, hs', fun j hjl hj => ?_, fun j hjl hj => ?_⟩⟩
          · rw [List.mem_filter] at he
            have hin := orderedB_spec hord ho e (by simpa using he.1) he.2
            exact hv e.on (by omega) (hdep e (by simpa using he.1) he.2)
          · rw [getD_set_ne false hil1]
            exact hlf
          · by_cases hji : j = i
            · subst hji
              show V j (if j = 0 + j then v else x j) w'
              rw [Nat.zero_add, if_pos rfl]
              rw [Nat.zero_add] at hv'
              exact hv'
            · show V j (if j = 0 + i then v else x j) w'
              rw [Nat.zero_add, if_neg hji]
              rw [getD_set_ne false (Ne.symm hji)] at hj
              exact hst j _ (by omega) (hv j hjl hj)
          · show (if j = 0 + i then v else x j) = x0 j
            by_cases hji : j = i
            · subst hji
              simp [hil] at hj
            · rw [Nat.zero_add, if_neg hji]
              rw [getD_set_ne false (Ne.symm hji)] at hj
              exact hu j hjl hj
        rw [if_pos hg.1]
        exact hg.2
    · exfalso
      have hd2 : ∀ e ∈ last.after, Region.binds .any e = true → li.getD e.on false = true := fun e he hb => by
        rw [hsz, Nat.add_sub_cancel] at hl1
        exact hcl _ last hl1 hlt e he hb
      have hall := all_before hlast hcl hl1 hd2
      have hi3 : li.getD i false = true := by
        rcases Nat.lt_or_ge (i + 1) ops.size with h1 | h1
        · exact hall ops.size i (by omega) h1
        · have : i = l.length := by omega
          rw [this]
          exact hlt
      have : li[i] = false := by simpa [Array.getElem?_eq_getElem hil] using h0
      simp [Array.getElem?_eq_getElem hil, this] at hi3
  · simp
  · intro j o _ hj
    exfalso
    simp [Array.getElem?_replicate] at hj
    split at hj <;> simp at hj
  · simp [Array.getElem?_replicate]
    split <;> rfl
  · intro i _ hi
    exfalso
    simp [Array.getElem?_replicate] at hi
    split at hi <;> simp at hi
theorem wp_region_fin {id : Nat} (A : (Nat → Value) → Act) (x0 : Nat → Value) (S : (Nat → Value) → World → Prop) (V : Nat → Value → World → Prop) {a : Act} {w : World} (last : Oper)
    (hops : ops.toList.getLast? = some last) (hm : P.follows .mixedOrders = true) (hord : orderedB ops = true) (hlast : lastB ops = true) (ha : a = A x0) (h0 : S x0 w.drew)
    (hput : Puts A ops.toList.dropLast 0) (hstep : StepsG P ops Q A x0 S V ops.toList.dropLast 0)
    (hfin : ∀ x w', S x w' → (∀ i, i + 1 < ops.size → V i (x i) w') → ∀ K : Act → World → Prop, (∀ a' w'', Q .normal a' w'' → K a' w'') → Region.wanted last (yielded ops (A x).tmps) = true ∧ Oper.wp P last (A x) w' K Q) :
    (Code.region id ops true).wp P Q a w :=
  wp_region_end A x0 S V last ops.toList.dropLast (by
    have hne : ops.toList ≠ [] := fun h => by rw [h] at hops; cases hops
    rw [List.getLast?_eq_some_getLast hne] at hops
    cases hops
    exact (List.dropLast_concat_getLast hne).symm) hm hord hlast ha h0 hput hstep
    (fun x w' hS hv => hfin x w' hS (fun i hi => hv i (by simpa using (by omega : i < ops.size - 1))))
end
end Go.Proofs.Ytljmaicobafgkaa
end
section
/- A region that draws its order, by what each operation yields; what holds of the world may turn with what has come up (told by d). -/
namespace Go.Proofs.Ytljmaicobafgkaa
open Go.RowKit

section
variable {P : Program} {ops : Array Oper} {Q : Exit → Act → World → Prop}
def StepsD (P : Program) (ops : Array Oper) (Q : Exit → Act → World → Prop) (A : (Nat → Value) → Act) (S : (Nat → Bool) → (Nat → Value) → World → Prop) (V : Nat → Value → World → Prop) : List Oper → Nat → Prop
  | [], _ => True
  | o :: l, i => (∀ d x w, S d x w → d i = false → (∀ e ∈ o.after.toList.filter (Region.binds .any), V e.on (x e.on) w) → (∀ e ∈ o.after.toList.filter (Region.binds .any), d e.on = true) → ∀ K : Act → World → Prop,
      (∀ v w', S (fun j => if j = i then true else d j) (fun j => if j = i then v else x j) w' → V i v w' → (∀ j u, j ≠ i → V j u w → V j u w') → K ((A x).put o.dst v) w') → Region.wanted o (yielded ops (A x).tmps) = true ∧ Oper.wp P o (A x) w K Q) ∧ StepsD P ops Q A S V l (i + 1)
theorem StepsD.get {A : (Nat → Value) → Act} {S : (Nat → Bool) → (Nat → Value) → World → Prop} {V : Nat → Value → World → Prop} : ∀ (l : List Oper) (k : Nat), StepsD P ops Q A S V l k → ∀ (i : Nat) (o : Oper), l[i]? = some o →
    ∀ d x w, S d x w → d (k + i) = false → (∀ e ∈ o.after.toList.filter (Region.binds .any), V e.on (x e.on) w) → (∀ e ∈ o.after.toList.filter (Region.binds .any), d e.on = true) → ∀ K : Act → World → Prop,
      (∀ v w', S (fun j => if j = k + i then true else d j) (fun j => if j = k + i then v else x j) w' → V (k + i) v w' → (∀ j u, j ≠ k + i → V j u w → V j u w') → K ((A x).put o.dst v) w') → Region.wanted o (yielded ops (A x).tmps) = true ∧ Oper.wp P o (A x) w K Q
  | [], _, _, _, _, h => by simp at h
  | _ :: _, _, hs, 0, _, h => by
    simp only [List.getElem?_cons_zero, Option.some.injEq] at h
    subst h
    exact hs.1
  | _ :: l, k, hs, i + 1, o, h => by
    have := StepsD.get l (k + 1) hs.2 i o (by simpa using h)
    rw [show k + 1 + i = k + (i + 1) from by omega] at this
    exact this
theorem wp_region_d {id : Nat} (A : (Nat → Value) → Act) (x0 : Nat → Value) (S : (Nat → Bool) → (Nat → Value) → World → Prop) (V : Nat → Value → World → Prop) {a : Act} {w : World}
    (hm : P.follows .mixedOrders = true) (hord : orderedB ops = true) (ha : a = A x0) (h0 : S (fun _ => false) x0 w.drew)
    (hput : Puts A ops.toList 0) (hstep : StepsD P ops Q A S V ops.toList 0)
    (hdone : ∀ d x w', S d x w' → (∀ i, i < ops.size → d i = true) → (∀ i, i < ops.size → V i (x i) w') → Q .normal (A x) w') : (Code.region id ops true).wp P Q a w := by
  subst ha
  refine wp_region_any hm (wpAny_inv (fun li a w => ∃ x, a = A x ∧ S (fun j => li.getD j false) x w ∧ ∀ i, li.getD i false = true → V i (x i) w) hord ?_ ?_ _ _ _ _ (by simp) ?_ ⟨x0, rfl, ?_, ?_⟩)
  · rintro l a w _ ⟨x, rfl, hs, hv⟩ hall
    exact hdone _ x w hs hall fun i hi => hv i (hall i hi)
  · rintro i o ho l a w ⟨x, rfl, hs, hv⟩ h0 hdep K hK
    have hl : ops.toList[i]? = some o := by rw [Array.getElem?_toList]; exact ho
    have hi2 : i < ops.size := (Array.getElem?_eq_some_iff.1 ho).1
    have hil : i < l.size := by
      rcases Nat.lt_or_ge i l.size with h' | h'
      · exact h'
      · simp [Array.getElem?_eq_none h'] at h0
    have hdi : l.getD i false = false := by
      simp only [Array.getD_eq_getD_getElem?, Array.getElem?_eq_getElem hil, Option.getD_some] at h0 ⊢
      exact h0
    have hset : (fun j => (l.setIfInBounds i true).getD j false) = fun j => if j = 0 + i then true else l.getD j false := by
      funext j
      rw [Nat.zero_add]
      by_cases hji : j = i
      · subst hji
        simp [hil]
      · rw [getD_set_ne false (Ne.symm hji), if_neg hji]
    have hg : Region.wanted o (yielded ops (A x).tmps) = true ∧ Oper.wp P o (A x) w K Q := by
      refine StepsD.get ops.toList 0 hstep i o hl (fun j => l.getD j false) x w hs (by rw [Nat.zero_add]; exact hdi) (fun e he => ?_) (fun e he => ?_) K fun v w' hs' hv' hst => hK _ _ ⟨fun j => if j = 0 + i then v else x j, Puts.get ops.toList 0 hput i o hl x v, by rw [hset]; exact hs', fun j hj => ?_⟩
      · rw [List.mem_filter] at he
        exact hv e.on (hdep e (by simpa using he.1) he.2)
      · rw [List.mem_filter] at he
        exact hdep e (by simpa using he.1) he.2
      · by_cases hji : j = i
        · subst hji
          show V j (if j = 0 + j then v else x j) w'
          rw [Nat.zero_add, if_pos rfl]
          rw [Nat.zero_add] at hv'
          exact hv'
        · show V j (if j = 0 + i then v else x j) w'
          rw [Nat.zero_add, if_neg hji]
          rw [getD_set_ne false (Ne.symm hji)] at hj
          exact hst j _ (by omega) (hv j hj)
    rw [if_pos hg.1]
    exact hg.2
  · simp
  · have : (fun j => (Array.replicate ops.size false).getD j false) = fun _ => false := by
      funext j
      simp [Array.getElem?_replicate]
      split <;> rfl
    first
      | exact this ▸ h0
      | (rw [this]; exact h0)
  · intro i hi
    exfalso
    simp [Array.getElem?_replicate] at hi
    split at hi <;> simp at hi
end
end Go.Proofs.Ytljmaicobafgkaa
end
section
/- Chapter 13, net: slices.Delete of one parcel. -/
namespace Go.Proofs.Ytljmaicobafgkaa
open Go.RowKit

theorem wv_len (l : List Pcl) : (wayVals l).length = l.length * 3 := by
  induction l with
  | nil => rfl
  | cons p l ih =>
    have : wayVals (p :: l) = p.cells ++ wayVals l := by simp [wayVals]
    rw [this, List.length_append, ih]
    simp [Pcl.cells]
    omega
theorem wv_app (a b : List Pcl) : wayVals (a ++ b) = wayVals a ++ wayVals b := by simp [wayVals]
theorem wv_take (l : List Pcl) {k : Nat} (hk : k ≤ l.length) : (wayVals l).take (k * 3) = wayVals (l.take k) := by
  have h : wayVals l = wayVals (l.take k) ++ wayVals (l.drop k) := by rw [← wv_app, List.take_append_drop]
  rw [h, List.take_left' (by rw [wv_len, List.length_take]; congr 1; omega)]
theorem wv_drop (l : List Pcl) {k : Nat} (hk : k ≤ l.length) : (wayVals l).drop (k * 3) = wayVals (l.drop k) := by
  have h : wayVals l = wayVals (l.take k) ++ wayVals (l.drop k) := by rw [← wv_app, List.take_append_drop]
  rw [h, List.drop_left' (by rw [wv_len, List.length_take]; congr 1; omega)]
theorem wv_one (v : Value) {l : List Pcl} (h : v ∈ wayVals l) : v.oneCell' = true := by
  unfold wayVals at h
  rw [List.mem_flatMap] at h
  obtain ⟨p, _, hp⟩ := h
  simp only [Pcl.cells, List.mem_cons, List.not_mem_nil, or_false] at hp
  rcases hp with rfl | rfl | rfl <;> rfl
theorem wv_erase (l : List Pcl) {k : Nat} (hk : k < l.length) : wayVals (l.eraseIdx k) = (wayVals l).take (k * 3) ++ (wayVals l).drop ((k + 1) * 3) := by
  rw [wv_take l (by omega), wv_drop l (by omega), ← wv_app, List.eraseIdx_eq_take_drop_succ]
theorem info214 : (Try.prog.info? 214).map (fun i => (i.zero, i.size, i.bytes)) = some (some (.agg #[.int .i64 0, .int .i64 0, .string ⟨#[]⟩]), 3, 32) := by kernel_rfl
theorem info214_parts : ∃ i, Try.prog.info? 214 = some i ∧ i.zero = some (.agg #[.int .i64 0, .int .i64 0, .string ⟨#[]⟩]) ∧ i.size = 3 ∧ i.bytes = 32 := by
  have h := info214
  rcases e : Try.prog.info? 214 with _ | i
  · rw [e] at h
    cases h
  · rw [e] at h
    simp only [Option.map_some, Option.some.injEq, Prod.mk.injEq] at h
    exact ⟨i, rfl, h.1, h.2.1, h.2.2⟩
theorem zero214 (w : World) : (zeroValue 214).run Try.prog w = .ok (.agg #[.int .i64 0, .int .i64 0, .string ⟨#[]⟩]) w := by
  obtain ⟨i, hi, hz, _⟩ := info214_parts
  simp [zeroValue, typeInfo, hi, hz]
theorem wpList_clear_run {P : Program} {ops : Array Oper} {rest : List Oper} {o : Oper} {a : Act} {w : World} {Q : Exit → Act → World → Prop} (hgd : o.guard = none) (s : Operand) (t : TypeId)
    (ho : o.op = .call { callee := .builtin .clear, args := #[s], argTypes := #[t] }) {vs v' : Value} {w' : World} (hs : a.eval s = vs)
    (hrun : (Builtin.clear_ #[t] o.type #[vs]).run P w = .ok v' w') (h : wpList P ops Q rest (a.put o.dst v') w') : wpList P ops Q (o :: rest) a w := by
  refine wpList_plain hgd fun K hK => ?_
  unfold Oper.wp execOp
  simp only [ho, resolve, invoke, builtin, Sem.run_bind, Sem.run_pure, Result.andThen_ok, List.map_toArray, List.map_cons, List.map_nil, hs, hrun]
  exact hK _ _ h
def z214 : List Value := [.int .i64 0, .int .i64 0, .string ⟨#[]⟩]
theorem clear214 (w : World) (ty : TypeId) (g o c : Nat) (cur : Array Value) (hg : w.heap[g]? = some (.cells cur 214 (0, 0))) (ho : o + 3 ≤ cur.size) :
    (Builtin.clear_ #[207] ty #[.slice (some ⟨g, o, none⟩) 1 c]).run Try.prog w = .ok (.tuple #[]) (w.setRow g (cur.toList.take o ++ z214 ++ cur.toList.drop (o + 3)).toArray) := by
  have hst := run_storeCells_at Try.prog g o 214 z214 0 cur w hg (by simpa [z214] using ho) (by decide)
  have hzc : (Builtin.zeroCells (Value.cells (.agg #[.int .i64 0, .int .i64 0, .string ⟨#[]⟩])) 1).toList = z214 := by kernel_rfl
  simp only [Nat.add_zero] at hst
  simp [Builtin.clear_, run_underlying Try.underlying207, hzc, hst]
  rfl
section
variable {P : Program} {ops : Array Oper} {Q : Exit → Act → World → Prop}
/-- wp_region_d over a frame whose other slots stay behind a letter. -/
theorem wp_region_dF {id : Nat} (F : (Nat → Value) → (Nat → Value) → Act) (pos : Nat → Nat) (S : (Nat → Bool) → (Nat → Value) → World → Prop) (V : Nat → Value → World → Prop) {a : Act} {w : World}
    (hm : P.follows .mixedOrders = true) (hord : orderedB ops = true) (ha : a = F (fun j => a.tmps.getD j undef) (fun j => a.tmps.getD (pos j) undef)) (h0 : S (fun _ => false) (fun j => a.tmps.getD (pos j) undef) w.drew)
    (hput : ∀ u, Puts (F u) ops.toList 0) (hstep : ∀ u, StepsD P ops Q (F u) S V ops.toList 0)
    (hdone : ∀ u, (u = fun j => a.tmps.getD j undef) → ∀ d x w', S d x w' → (∀ i, i < ops.size → d i = true) → (∀ i, i < ops.size → V i (x i) w') → Q .normal (F u x) w') : (Code.region id ops true).wp P Q a w :=
  wp_region_d (F fun j => a.tmps.getD j undef) _ S V hm hord ha h0 (hput _) (hstep _) (hdone _ rfl)
end
/-- A whole variable, stored or loaded. -/
theorem wpList_loadv' {P : Program} {ops : Array Oper} {rest : List Oper} {o : Oper} {a : Act} {w : World} {Q : Exit → Act → World → Prop} (hgd : o.guard = none) (ty : TypeId) (x : Operand) (ho : o.op = .load ty x) {p v : Value} (hx : a.eval x = p)
    (hrun : (Instr.loadAt ty p).run P w = .ok v w) (h : wpList P ops Q rest (a.put o.dst v) w) : wpList P ops Q (o :: rest) a w :=
  wpList_plain hgd fun _ hK => by
    unfold Oper.wp execOp
    simp only [ho, hx, Sem.run_bind, hrun, Result.andThen_ok, Sem.run_pure]
    exact hK _ _ h
theorem wpList_storev' {P : Program} {ops : Array Oper} {rest : List Oper} {o : Oper} {a : Act} {w w' : World} {Q : Exit → Act → World → Prop} (hgd : o.guard = none) (ty : TypeId) (x y : Operand) (ho : o.op = .store ty x y) {p v : Value} (hx : a.eval x = p) (hy : a.eval y = v)
    (hrun : (Instr.storeAt ty p v).run P w = .ok () w') (h : wpList P ops Q rest (a.put o.dst undef) w') : wpList P ops Q (o :: rest) a w :=
  wpList_plain hgd fun _ hK => by
    unfold Oper.wp execOp
    simp only [ho, hx, hy, Sem.run_bind, hrun, Result.andThen_ok, Sem.run_pure]
    exact hK _ _ h
theorem wp_storev' {P : Program} {o : Oper} {a : Act} {w w' : World} {K : Act → World → Prop} {Q : Exit → Act → World → Prop} (ty : TypeId) (x y : Operand) (ho : o.op = .store ty x y) {p v : Value} (hx : a.eval x = p) (hy : a.eval y = v)
    (hrun : (Instr.storeAt ty p v).run P w = .ok () w') (h : K (a.put o.dst undef) w') : Oper.wp P o a w K Q := by
  unfold Oper.wp execOp
  simp only [ho, hx, hy, Sem.run_bind, hrun, Result.andThen_ok, Sem.run_pure]
  exact h
theorem store_whole {P : Program} {w : World} {g : Nat} {t ty : TypeId} {old cells : Array Value} (hg : w.heap[g]? = some (.cells old t (0, 0))) (hi : (P.info? ty).map (·.size) = some cells.size) (ho : old.size = cells.size) (h1 : cells.all (·.oneCell') = true) :
    (Instr.storeAt ty (.pointer (some ⟨g, 0, none⟩)) (.agg cells)).run P w = .ok () (w.setRow g cells) := by
  simp only [Instr.storeAt, Instr.sureAddr, Sem.run_bind, Sem.run_pure, Result.andThen_ok]
  exact run_storeVar_row w g t ty old cells hg hi ho h1
theorem setRow_at' {W : World} {g : Nat} {C C' : Array Value} {t : TypeId} (h : W.heap[g]? = some (.cells C t (0, 0))) : (W.setRow g C').heap[g]? = some (.cells C' t (0, 0)) := by
  simp [World.setRow, Array.getElem?_modify, h]
theorem setRow_size' (W : World) (g : Nat) (C' : Array Value) : (W.setRow g C').heap.size = W.heap.size := by simp [World.setRow]
theorem setRow_far' {W : World} {g k : Nat} {C' : Array Value} (h : k ≠ g) : (W.setRow g C').heap[k]? = W.heap[k]? := by
  simp [World.setRow, Array.getElem?_modify, Ne.symm h]
theorem setRow_fr' (W : World) (g : Nat) (C' : Array Value) : Fr (fun j => j = g) W (W.setRow g C') :=
  ⟨rfl, rfl, rfl, by rw [setRow_size']; exact Nat.le_refl _, fun _ _ hk => setRow_far' hk⟩
theorem wanted_none' {o : Oper} (h : o.guard = none) (f : Nat → Option Bool) : Region.wanted o f = true := by unfold Region.wanted; rw [h]
theorem slice_hi (w : World) (g n cap k : Nat) (hk : k ≤ cap) : (Instr.sliceAt 207 (.slice (some ⟨g, 0, none⟩) n cap) none (some (.int .i64 (k : Int))) none).run Try.prog w = .ok (.slice (some ⟨g, 0, none⟩) k cap) w := by
  have h0 : (if cap = 0 then some (⟨g, 0, none⟩ : Addr) else some ((⟨g, 0, none⟩ : Addr).add 0)) = some ⟨g, 0, none⟩ := by split <;> rfl
  simp [Instr.sliceAt, Instr.slice, Instr.sliceBounds, Instr.sliceBound, asIntOf, run_underlying Try.underlying207, h0]
  intro h
  omega
theorem slice_lo (w : World) (g n cap k : Nat) (hk : k ≤ n) : (Instr.sliceAt 207 (.slice (some ⟨g, 0, none⟩) n cap) (some (.int .i64 (k : Int))) none none).run Try.prog w = .ok (.slice (some (if cap = k then ⟨g, 0, none⟩ else ⟨g, k * 3, none⟩)) (n - k) (cap - k)) w := by
  have h0 : (if cap = k then some (⟨g, 0, none⟩ : Addr) else some ((⟨g, 0, none⟩ : Addr).add (k * 3))) = some (if cap = k then ⟨g, 0, none⟩ else ⟨g, k * 3, none⟩) := by
    split
    · rfl
    · rw [add_plain', Nat.zero_add]
  simp [Instr.sliceAt, Instr.slice, Instr.sliceBounds, Instr.sliceBound, asIntOf, run_underlying Try.underlying207, h0]
  intro h
  omega
theorem wpStill_slice {P : Program} {ops : Array Oper} {w : World} {Q : Act → Prop} {a : Act} {o : Oper} {rest : List Oper} (hgd : o.guard = none) (ty : TypeId) (x : Operand) (lo hi : Option Operand) (ho : o.op = .slice ty x lo hi none) {v u : Value} {l' h' : Option Value} (hx : a.eval x = v) (hl : lo.map a.eval = l') (hh : hi.map a.eval = h')
    (hrun : (Instr.sliceAt ty v l' h' none).run P w = .ok u w) (h : wpStill P ops w Q rest (a.put o.dst u)) : wpStill P ops w Q (o :: rest) a :=
  wpStill_step fun K hK => by
    rw [if_pos (wanted_none' hgd _)]
    unfold Oper.still execOp
    simp only [ho, hx, hl, hh, Option.map_none, Sem.run_bind, hrun, Result.andThen_ok, Sem.run_pure]
    exact ⟨rfl, hK _ h⟩
set_option maxHeartbeats 4000000 in
set_option maxRecDepth 100000 in
theorem delete_any {w : World} {g cap : Nat} {l : List Pcl} (h : w.ownsRow 0 214 3 (.slice (some ⟨g, 0, none⟩) l.length cap) l.length (wayVals l)) (k : Nat) (hk : k < l.length) :
    Calls Try.prog 175 #[.slice (some ⟨g, 0, none⟩) l.length cap, .int .i64 (k : Int), .int .i64 ((k + 1 : Nat) : Int)] w fun e w' => e = .returned (.slice (some ⟨g, 0, none⟩) (l.length - 1) cap) ∧ w'.ownsRow 0 214 3 (.slice (some ⟨g, 0, none⟩) (l.length - 1) cap) (l.eraseIdx k).length (wayVals (l.eraseIdx k)) ∧ Fr (fun j => j = g) w w' := by
  rcases h.2 with ⟨e, _⟩ | ⟨g', cap', cur, e, -, hc, hn, hm, hs, ht⟩
  · cases e
  cases e
  obtain ⟨i0, hi0, hz0, hz1, hz2⟩ := info214_parts
  have hxl := wv_len l
  have hcl : cur.toList.length = cap * 3 := by rw [Array.length_toList, hs]
  obtain ⟨news, hnews⟩ : ∃ news, news = (wayVals l).drop ((k + 1) * 3) := ⟨_, rfl⟩
  have hnl : news.length = (l.length - (k + 1)) * 3 := by rw [hnews, List.length_drop, hxl]; omega
  have hn1 : ∀ u ∈ news, u.oneCell' = true := fun u hu => wv_one u (List.mem_of_mem_drop (hnews ▸ hu))
  have hat : ∀ j u, news[j]? = some u → w.cell? ⟨g, (k + 1) * 3 + j, none⟩ = some u := fun j u hu => by
    rw [obj_cell hc, ← Array.getElem?_toList]
    rw [hnews, List.getElem?_drop, ← ht, List.getElem?_take] at hu
    split at hu
    · exact hu
    · cases hu
  obtain ⟨cur1, hc1⟩ : ∃ c, c = (cur.toList.take (k * 3) ++ news ++ cur.toList.drop (k * 3 + news.length)).toArray := ⟨_, rfl⟩
  have hs1 : cur1.size = cap * 3 := by rw [hc1]; simp; omega
  obtain ⟨ad, had⟩ : ∃ a : Addr, a = if cap = k + 1 then ⟨g, 0, none⟩ else ⟨g, (k + 1) * 3, none⟩ := ⟨_, rfl⟩
  have hat' : ∀ j u, news[j]? = some u → w.drew.cell? (ad.add j) = some u := fun j u hu => by
    rw [had, if_neg (by
      rintro e
      have : j < news.length := (List.getElem?_eq_some_iff.1 hu).1
      omega), add_plain']
    exact hat j u hu
  have hsl := slice_lo w.drew g l.length cap (k + 1) (by omega)
  have hsh := slice_hi w.drew g l.length cap k (by omega)
  rw [← had] at hsl
  have happ := run_append_room (P := Try.prog) w.drew 207 207 214 i0 Try.underlying207 hi0 g k cap cur hc ad (l.length - (k + 1)) (cap - (k + 1)) news (by rw [hz1]; exact hnl) hat' hn1 (by omega) (by rw [hz1, hnl]; omega)
  rw [hz1, ← hc1] at happ
  have hclr := clear214 (w.drew.setRow g cur1) 0 g ((l.length - 1) * 3) (cap - (l.length - 1)) cur1 (setRow_heap w.drew g cur cur1 214 (0, 0) hc) (by omega)
  obtain ⟨m, hm1⟩ : ∃ m, l.length = m + 1 := ⟨l.length - 1, by omega⟩
  rw [hm1, show k + (m + 1 - (k + 1)) = m from by omega, show m + 1 - (k + 1) = m - k from by omega] at happ
  rw [hm1, show m + 1 - 1 = m from rfl] at hclr
  rw [hm1, show m + 1 - (k + 1) = m - k from by omega] at hsl
  rw [hm1] at hsh
  obtain ⟨cur2, hc2⟩ : ∃ c, c = (cur1.toList.take (m * 3) ++ z214 ++ cur1.toList.drop (m * 3 + 3)).toArray := ⟨_, rfl⟩
  rw [← hc2] at hclr
  have hs2 : cur2.size = cap * 3 := by rw [hc2]; simp [z214]; omega
  have ht2 : cur2.toList.take (m * 3) = wayVals (l.eraseIdx k) := by
    have ea : (cur.toList.take (k * 3)).length = k * 3 := by rw [List.length_take]; omega
    have e1 : (cur.toList.take (k * 3) ++ news).length = m * 3 := by rw [List.length_append, ea, hnl]; omega
    have e2 : cur1.toList.take (m * 3) = cur.toList.take (k * 3) ++ news := by
      rw [hc1]
      exact List.take_left' e1
    have e3 : (wayVals l).take (k * 3) = cur.toList.take (k * 3) := by rw [← ht, List.take_take, Nat.min_eq_left (by omega)]
    rw [wv_erase l hk, e3, ← hnews, ← e2, hc2]
    show List.take (m * 3) (cur1.toList.take (m * 3) ++ z214 ++ _) = _
    rw [List.append_assoc]
    exact List.take_left' (by rw [e2]; exact e1)
  have hel : (l.eraseIdx k).length = m := by rw [List.length_eraseIdx, if_pos hk, hm1]; omega
  have hgl := obj_lt hc
  have hfin : Hid (∀ W : World, W.heap = ((w.drew.setRow g cur1).setRow g cur2).heap → W.ownsRow 0 214 3 (.slice (some ⟨g, 0, none⟩) m cap) (l.eraseIdx k).length (wayVals (l.eraseIdx k))) := hide (fun W hW => by
    rw [hel]
    exact ⟨by rw [wv_len, hel], .inr ⟨g, cap, cur2, rfl, Nat.zero_le _, by rw [hW]; exact setRow_heap _ g cur1 cur2 214 (0, 0) (setRow_heap w.drew g cur cur1 214 (0, 0) hc), by omega, hm, hs2, ht2⟩⟩)
  have hfr : Hid (Fr (fun j => j = g) w ((w.drew.setRow g cur1).setRow g cur2)) := hide ((((Fr.refl _ w).drew).trans (setRow_fr' _ g cur1) (fun i _ e => e)).trans (setRow_fr' _ g cur2) (fun i _ e => e))
  have HSL := hide hsl
  have HSH := hide hsh
  have HA := hide happ
  have hkn : k ≤ m := by omega
  have hnc : m + 1 ≤ cap := by omega
  have hnm : cap ≤ 9223372036854775807 := by simp only [maxLen] at hm; omega
  rw [hm1, show m + 1 - 1 = m from rfl]
  clear happ hsl hsh hel hs2 ht2 hc2 hc1 hs1 had hat hat' hnews hnl hn1 hxl hcl hm1 hgl ht hs hc hi0 hz0 hz1 hz2 h hk hn
  go_enter Try.func175, Try.ntmps175
  go_wp2_with fail
  refine wp_stl 6 (by kernel_rfl) (by kernel_rfl) ?_
  simp only [List.take_succ_cons, List.take_zero, List.drop_succ_cons, List.drop_zero]
  repeat (first | still_step | refine wpStill_slice rfl 207 (.tmp 20) none (some (.tmp 21)) rfl rfl rfl rfl HSH.out ?_ | refine wpStill_slice rfl 207 (.tmp 23) (some (.tmp 24)) none rfl rfl rfl rfl HSL.out ?_)
  refine wpStill_nil ?_
  go_wp2_with (at_builtin; refine wpList_append_run rfl (.tmp 22) (.tmp 25) 207 207 rfl rfl rfl HA.out ?_)
  go_ret
  exact ⟨rfl, hfin.out _ rfl, hfr.out⟩
end Go.Proofs.Ytljmaicobafgkaa
end
