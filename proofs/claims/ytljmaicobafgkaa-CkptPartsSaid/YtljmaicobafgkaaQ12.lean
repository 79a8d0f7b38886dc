/- A join of 2 texts of this claim: FrBack, Seg4. Conditions: none of their own. -/
import Derived.Test.YtljmaicobafgkaaQ11
import Derived.Test.YtljmaicobafgkaaQ6
import Derived.Test.YtljmaicobafgkaaQ7
section
/- Layer 12: a message there and back (FramesBack). -/
namespace Go.Proofs.Ytljmaicobafgkaa
open Go.RowKit

/-- What a call of Encode is asked to give, from any world. -/
def EncTo (k f t i : Int) (b o : ByteArray) (c : Int) : Prop := ∀ w : World,
  Calls Try.prog 44 #[.agg #[.int .i64 k, .int .i64 f, .int .i64 t, .int .i64 i, .string b]] w fun e w' => e = .returned (.tuple #[.string o, .int .i64 c]) ∧ Below w.heap.size w w'
def DecTo (s : ByteArray) (k f t i : Int) (b : ByteArray) (c : Int) : Prop := ∀ w : World,
  Calls Try.prog 49 #[.string s] w fun e w' => e = .returned (.tuple #[.agg #[.int .i64 k, .int .i64 f, .int .i64 t, .int .i64 i, .string b], .int .i64 c]) ∧ Below w.heap.size w w'

theorem below_step {B : Nat} {w w1 w2 : World} {o : Obj} (h1 : Below B w w1) (hB : B ≤ w1.heap.size) (h2 : Below (w1.alloc o).heap.size (w1.alloc o) w2) : Below B w w2 :=
  (h1.alloc hB o).trans (h2.mono (by simp; omega))
theorem below_on {B : Nat} {w w1 w2 : World} (h1 : Below B w w1) (hB : B ≤ w1.heap.size) (h2 : Below w1.heap.size w1 w2) : Below B w w2 :=
  h1.trans (h2.mono hB)

set_option maxHeartbeats 4000000 in
set_option maxRecDepth 100000 in
theorem back_00 (ha : Awake12) (k f t i : Int) (b s o : ByteArray) (_c : Int) (k' f' t' i' : Int) (b' : ByteArray) (_c' : Int)
    (hE : EncTo k f t i b o 0) (hD : DecTo o k f t i b 0) (hD' : DecTo s k' f' t' i' b' 0) (hE' : EncTo k' f' t' i' b' s 0) (w : World) (hs : s.size ≤ 10000) :
    Calls Try.prog 9 #[.agg #[.int .i64 k, .int .i64 f, .int .i64 t, .int .i64 i, .string b], .string s] w fun e w' => e = .returned (.bool true) ∧ Below w.heap.size w w' := by
  have HA := hide ha
  have HE := hide hE
  have HD := hide hD
  have HD' := hide hD'
  have HE' := hide hE'
  clear ha hE hD hD' hE'
  go_enter Try.func9, Try.ntmps9
  go_wp2_with fail
  refine (HE.out _).mono ?_
  rintro e w1 ⟨rfl, hb1⟩
  have hm := obj_below (obj_new w _) hb1
  have HM := hide hm
  have HB1 := hide (below_step (Below.refl _ _) (Nat.le_refl _) hb1)
  have hz1 := HB1.out.size
  clear hb1 hm
  go_wp2_with fail
  refine (HD.out _).mono ?_
  rintro e w2 ⟨rfl, hb2⟩
  have hm2 := obj_below HM.out hb2
  have HM2 := hide hm2
  have HB2 := hide (below_on HB1.out hz1 hb2)
  have hz2 := HB2.out.size
  have z0 := obj_cell hm2 0
  have z1 := obj_cell hm2 1
  have z2 := obj_cell hm2 2
  have z3 := obj_cell hm2 3
  have z4 := obj_cell hm2 4
  simp only [List.getElem?_toArray, List.getElem?_cons_zero, List.getElem?_cons_succ] at z0 z1 z2 z3 z4
  have l2 := obj_lt hm2
  clear hb2 hm2
  go_wp2_with fail
  refine (HD'.out _).mono ?_
  rintro e w3 ⟨rfl, hb3⟩
  have HB3 := hide (below_step HB2.out hz2 hb3)
  have hz3 := HB3.out.size
  clear hb3
  go_wp2_with fail
  refine (HE'.out _).mono ?_
  rintro e w4 ⟨rfl, hb4⟩
  have HB4 := hide (below_step HB3.out hz3 hb4)
  have hz4 := HB4.out.size
  clear hb4
  go_wp2_with fail
  refine (HA.out _).mono ?_
  rintro e w5 ⟨rfl, hb5⟩
  go_wp2
  go_ret
  exact ⟨rfl, below_on HB4.out hz4 hb5⟩
set_option maxHeartbeats 4000000 in
set_option maxRecDepth 100000 in
theorem back_01 (ha : Awake12) (k f t i : Int) (b s o : ByteArray) (_c : Int) (k' f' t' i' : Int) (b' : ByteArray) (c' : Int)
    (hE : EncTo k f t i b o 0) (hD : DecTo o k f t i b 0) (hD' : DecTo s k' f' t' i' b' c') (hc' : c' ≠ 0) (w : World) (hs : s.size ≤ 10000) :
    Calls Try.prog 9 #[.agg #[.int .i64 k, .int .i64 f, .int .i64 t, .int .i64 i, .string b], .string s] w fun e w' => e = .returned (.bool true) ∧ Below w.heap.size w w' := by
  have hn3 : (c' == 0) = false := by simp [hc']
  have hn4 : (c' != 0) = true := by simp [hc']
  have HA := hide ha
  have HE := hide hE
  have HD := hide hD
  have HD' := hide hD'
  clear ha hE hD hD' hc'
  go_enter Try.func9, Try.ntmps9
  go_wp2_with fail
  refine (HE.out _).mono ?_
  rintro e w1 ⟨rfl, hb1⟩
  have hm := obj_below (obj_new w _) hb1
  have HM := hide hm
  have HB1 := hide (below_step (Below.refl _ _) (Nat.le_refl _) hb1)
  have hz1 := HB1.out.size
  clear hb1 hm
  go_wp2_with fail
  refine (HD.out _).mono ?_
  rintro e w2 ⟨rfl, hb2⟩
  have hm2 := obj_below HM.out hb2
  have HM2 := hide hm2
  have HB2 := hide (below_on HB1.out hz1 hb2)
  have hz2 := HB2.out.size
  have z0 := obj_cell hm2 0
  have z1 := obj_cell hm2 1
  have z2 := obj_cell hm2 2
  have z3 := obj_cell hm2 3
  have z4 := obj_cell hm2 4
  simp only [List.getElem?_toArray, List.getElem?_cons_zero, List.getElem?_cons_succ] at z0 z1 z2 z3 z4
  have l2 := obj_lt hm2
  clear hb2 hm2
  go_wp2_with fail
  refine (HD'.out _).mono ?_
  rintro e w3 ⟨rfl, hb3⟩
  have HB3 := hide (below_step HB2.out hz2 hb3)
  have hz3 := HB3.out.size
  clear hb3
  go_wp2_with fail
  refine (HA.out _).mono ?_
  rintro e w5 ⟨rfl, hb5⟩
  go_wp2
  go_ret
  exact ⟨rfl, below_step HB3.out hz3 hb5⟩
set_option maxHeartbeats 4000000 in
set_option maxRecDepth 100000 in
theorem back_10 (ha : Awake12) (k f t i : Int) (b s o : ByteArray) (c : Int) (k' f' t' i' : Int) (b' : ByteArray) (_c' : Int)
    (hE : EncTo k f t i b o c) (hc : c ≠ 0) (hD' : DecTo s k' f' t' i' b' 0) (hE' : EncTo k' f' t' i' b' s 0) (w : World) (hs : s.size ≤ 10000) :
    Calls Try.prog 9 #[.agg #[.int .i64 k, .int .i64 f, .int .i64 t, .int .i64 i, .string b], .string s] w fun e w' => e = .returned (.bool true) ∧ Below w.heap.size w w' := by
  have hn1 : (c == 0) = false := by simp [hc]
  have hn2 : (c != 0) = true := by simp [hc]
  have HA := hide ha
  have HE := hide hE
  have HD' := hide hD'
  have HE' := hide hE'
  clear ha hE hD' hE' hc
  go_enter Try.func9, Try.ntmps9
  go_wp2_with fail
  refine (HE.out _).mono ?_
  rintro e w1 ⟨rfl, hb1⟩
  have HB2 := hide (below_step (Below.refl _ _) (Nat.le_refl _) hb1)
  have hz2 := HB2.out.size
  clear hb1
  go_wp2_with fail
  refine (HD'.out _).mono ?_
  rintro e w3 ⟨rfl, hb3⟩
  have HB3 := hide (below_on HB2.out hz2 hb3)
  have hz3 := HB3.out.size
  clear hb3
  go_wp2_with fail
  refine (HE'.out _).mono ?_
  rintro e w4 ⟨rfl, hb4⟩
  have HB4 := hide (below_step HB3.out hz3 hb4)
  have hz4 := HB4.out.size
  clear hb4
  go_wp2_with fail
  refine (HA.out _).mono ?_
  rintro e w5 ⟨rfl, hb5⟩
  go_wp2
  go_ret
  exact ⟨rfl, below_on HB4.out hz4 hb5⟩
set_option maxHeartbeats 4000000 in
set_option maxRecDepth 100000 in
theorem back_11 (ha : Awake12) (k f t i : Int) (b s o : ByteArray) (c : Int) (k' f' t' i' : Int) (b' : ByteArray) (c' : Int)
    (hE : EncTo k f t i b o c) (hc : c ≠ 0) (hD' : DecTo s k' f' t' i' b' c') (hc' : c' ≠ 0) (w : World) (hs : s.size ≤ 10000) :
    Calls Try.prog 9 #[.agg #[.int .i64 k, .int .i64 f, .int .i64 t, .int .i64 i, .string b], .string s] w fun e w' => e = .returned (.bool true) ∧ Below w.heap.size w w' := by
  have hn1 : (c == 0) = false := by simp [hc]
  have hn2 : (c != 0) = true := by simp [hc]
  have hn3 : (c' == 0) = false := by simp [hc']
  have hn4 : (c' != 0) = true := by simp [hc']
  have HA := hide ha
  have HE := hide hE
  have HD' := hide hD'
  clear ha hE hD' hc hc'
  go_enter Try.func9, Try.ntmps9
  go_wp2_with fail
  refine (HE.out _).mono ?_
  rintro e w1 ⟨rfl, hb1⟩
  have HB2 := hide (below_step (Below.refl _ _) (Nat.le_refl _) hb1)
  have hz2 := HB2.out.size
  clear hb1
  go_wp2_with fail
  refine (HD'.out _).mono ?_
  rintro e w3 ⟨rfl, hb3⟩
  have HB3 := hide (below_on HB2.out hz2 hb3)
  have hz3 := HB3.out.size
  clear hb3
  go_wp2_with fail
  refine (HA.out _).mono ?_
  rintro e w5 ⟨rfl, hb5⟩
  go_wp2
  go_ret
  exact ⟨rfl, below_step HB3.out hz3 hb5⟩
set_option maxHeartbeats 4000000 in
set_option maxRecDepth 100000 in
theorem back_far (ha : Awake12) (k f t i : Int) (b s : ByteArray) (w : World) (hs : 10000 < s.size) :
    Calls Try.prog 9 #[.agg #[.int .i64 k, .int .i64 f, .int .i64 t, .int .i64 i, .string b], .string s] w fun e w' => e = .returned (.bool true) ∧ Below w.heap.size w w' := by
  have HA := hide ha
  clear ha
  go_enter Try.func9, Try.ntmps9
  go_wp2_with fail
  refine (HA.out _).mono ?_
  rintro e w5 ⟨rfl, hb5⟩
  go_wp2
  go_ret
  exact ⟨rfl, below_step (Below.refl _ _) (Nat.le_refl _) hb5⟩
end Go.Proofs.Ytljmaicobafgkaa
end
section
/- Chapter 31, segment: Add. -/
namespace Go.Proofs.Ytljmaicobafgkaa
open Go.RowKit

theorem info89 : (Try.prog.info? 89).map (fun i => (i.zero, i.size, i.bytes)) = some (some (.agg #[.int .i64 0, .int .i64 0, .int .i64 0, .int .i64 0, .int .i64 0]), 5, 40) := by kernel_rfl
theorem info89_parts : ∃ i, Try.prog.info? 89 = some i ∧ i.zero = some (.agg #[.int .i64 0, .int .i64 0, .int .i64 0, .int .i64 0, .int .i64 0]) ∧ i.size = 5 ∧ i.bytes = 40 := by
  have h := info89
  rcases e : Try.prog.info? 89 with _ | i
  · rw [e] at h
    cases h
  · rw [e] at h
    simp only [Option.map_some, Option.some.injEq, Prod.mk.injEq] at h
    exact ⟨i, rfl, h.1, h.2.1, h.2.2⟩
/-- One piece onto a row of the call's own. -/
theorem app_ent {w : World} {B : Nat} {v : Value} {l : List Ent} (h : OwE w B v l) (e : Ent) {g' : Nat} (hg : w.heap[g']? = some (.cells e.cells.toArray 89 (0, 0))) (hl : l.length ≤ 1048576) (hB : B ≤ w.heap.size) (ty : TypeId) :
    ∃ v' w', (Builtin.append_ #[84, 84] ty #[v, .slice (some ⟨g', 0, none⟩) 1 1]).run Try.prog w = .ok v' w' ∧ OwE w' B v' (l ++ [e]) ∧ Fr (fun k => v.ownBlock = some k) w w' ∧ (v'.ownBlock = v.ownBlock ∨ v'.ownBlock = some w.heap.size) := by
  obtain ⟨i0, hi0, hz0, hz1, hz2⟩ := info89_parts
  obtain ⟨v', w', hrun, hown, hgr, _, hown2⟩ := run_append_own_at (P := Try.prog) w B 84 ty 89 i0 _ 5 40 Try.underlying84 hi0 hz0 hz1 hz2 rfl (by decide) v l.length (entVals l) h ⟨g', 0, none⟩ 1 1 e.cells rfl
    (fun j u hu => by rw [add_plain', Nat.zero_add, obj_cell hg, ← hu]; simp) (by simp [Ent.cells, Value.oneCell']) (by simp only [maxLen]; omega) (by omega) hB
  refine ⟨v', w', hrun, ?_, (Fr.refl _ w).grown hgr (fun k hk _ => hk), hown2⟩
  unfold OwE
  rw [List.length_append, show entVals (l ++ [e]) = entVals l ++ e.cells from by simp [entVals]]
  exact hown
theorem app_str2 {w : World} {B : Nat} {v : Value} {l : List UInt8} (h : OwB w B v l) (s : ByteArray) (hl : l.length + s.size ≤ 140737488355328) (hB : B ≤ w.heap.size) (ty : TypeId) :
    ∃ v' w', (Builtin.append_ #[77, 9] ty #[v, .string s]).run Try.prog w = .ok v' w' ∧ OwB w' B v' (l ++ s.data.toList) ∧ Fr (fun k => v.ownBlock = some k) w w' := by
  obtain ⟨i0, hi0, hz0, hz1, hz2⟩ := info_parts info5
  obtain ⟨v', w', hrun, hown, hg, _⟩ := Lib.run_append_own_string (P := Try.prog) w B 77 9 ty 5 i0 Try.underlying77 Try.underlying9 hi0 hz0 hz1 hz2 v l.length (byteVals l) h s (by simp only [maxLen]; omega) (by omega) hB
  refine ⟨v', w', hrun, ?_, (Fr.refl _ w).grown hg (fun k hk _ => hk)⟩
  unfold OwB
  rw [byteVals_append, List.length_append, ← size_list, ← strCells_bytes]
  exact hown

section
variable {P : Program} {w : World}
theorem wp_append_run {o : Oper} {a : Act} {K : Act → World → Prop} {Q : Exit → Act → World → Prop} (s x : Operand) (t u : TypeId)
    (ho : o.op = .call { callee := .builtin .append, args := #[s, x], argTypes := #[t, u] }) {vs vx v' : Value} {w' : World} (hs : a.eval s = vs) (hx : a.eval x = vx)
    (hrun : (Builtin.append_ #[t, u] o.type #[vs, vx]).run P w = .ok v' w') (h : K (a.put o.dst v') w') : Oper.wp P o a w K Q := by
  unfold Oper.wp execOp
  simp only [ho, resolve, invoke, builtin, Sem.run_bind, Sem.run_pure, Result.andThen_ok, List.map_toArray, List.map_cons, List.map_nil, hs, hx, hrun]
  exact h
end
theorem five_setT {w : World} {g : Nat} {T : TypeId} {a b c d e : Value} (h : w.heap[g]? = some (.cells #[a, b, c, d, e] T (0, 0))) (v0 v1 v2 v3 v4 : Value) :
    (((((w.setCell ⟨g, 0, none⟩ v0).setCell ⟨g, 1, none⟩ v1).setCell ⟨g, 2, none⟩ v2).setCell ⟨g, 3, none⟩ v3).setCell ⟨g, 4, none⟩ v4).heap[g]? = some (.cells #[v0, v1, v2, v3, v4] T (0, 0)) := by
  have h0 := obj_set h 0 v0
  have h1 := obj_set h0 1 v1
  have h2 := obj_set h1 2 v2
  have h3 := obj_set h2 3 v3
  have h4 := obj_set h3 4 v4
  simpa using h4
theorem five_fr {F : Nat → Prop} {w w' : World} {g : Nat} (h : Fr F w w') (hg : g < w.heap.size → F g) {v0 v1 v2 v3 v4 : Value} :
    Fr F w (((((w'.setCell ⟨g, 0, none⟩ v0).setCell ⟨g, 1, none⟩ v1).setCell ⟨g, 2, none⟩ v2).setCell ⟨g, 3, none⟩ v3).setCell ⟨g, 4, none⟩ v4) :=
  ((((h.setCell (p := ⟨g, 0, none⟩) hg v0).setCell (p := ⟨g, 1, none⟩) hg v1).setCell (p := ⟨g, 2, none⟩) hg v2).setCell (p := ⟨g, 3, none⟩) hg v3).setCell (p := ⟨g, 4, none⟩) hg v4
def addA (g : Nat) (k i b tl bs lo : Int) (dc : Bool) (n0 n1 : Nat) (body : ByteArray) (v1 v2 : Value) (x : Nat → Value) : Act := ⟨#[.pointer (some ⟨g, 0, none⟩), .int .i64 k, .int .i64 i, .int .i64 b, .string body, undef, undef, undef, undef, undef,
  .pointer (some ⟨n0, 0, none⟩), .int .i64 0, .pointer (some ⟨n1, 0, none⟩), .int .i64 k, .int .i64 i, .int .i64 b, .pointer (some ⟨g, 0, none⟩), .int .i64 tl, .string body, .int .i64 bs,
  .agg #[.int .i64 k, .int .i64 i, .int .i64 b, .int .i64 tl, .int .i64 bs], .bool false, .pointer (some ⟨g, 0, none⟩), .bool false, .bool false, .agg #[.int .i64 k, .int .i64 i, .int .i64 b, .int .i64 tl, .int .i64 bs],
  .bool true, .bool false, .bool false, undef, .bool dc, .string body, .int .i64 bs, .pointer (some ⟨g, 0, none⟩), .int .i64 lo, .bool dc, undef, .pointer (some ⟨g, 0, none⟩), .pointer (some ⟨g, 0, none⟩), .pointer (some ⟨g, 0, none⟩),
  .pointer (some ⟨g, 1, none⟩), v1, .string body, v2, .pointer (some ⟨g, 0, none⟩), .pointer (some ⟨g, 1, none⟩), x 0, x 1, x 2, x 3, x 4, x 5, x 6, x 7, x 8, x 9, undef], []⟩
/-- What the appended row is. -/
def addV (n0 g : Nat) (lv : Value) (l : List Ent) (e : Ent) (i : Nat) (u : Value) (w : World) : Prop :=
  match i with
  | 3 => u = .pointer (some ⟨g, 2, none⟩)
  | 4 => u = lv
  | 5 => u = entV e
  | 6 => ∃ g', u = .slice (some ⟨g', 0, none⟩) 1 1 ∧ w.heap[g']? = some (.cells e.cells.toArray 89 (0, 0)) ∧ ¬ lv.ownBlock = some g'
  | 7 => ∃ A n c, u = .slice A n c ∧ OwE w g (.slice A n c) (l ++ [e]) ∧ ((Value.slice A n c).ownBlock = lv.ownBlock ∨ ∃ k, (Value.slice A n c).ownBlock = some k ∧ n0 ≤ k)
  | 9 => u = .pointer (some ⟨g, 2, none⟩)
  | _ => u = .pointer (some ⟨g, 0, none⟩)
theorem addV_below {n0 g : Nat} {lv : Value} {l : List Ent} {e : Ent} (i : Nat) (u : Value) (w w' : World) (hb : Below w.heap.size w w') (h : addV n0 g lv l e i u w) : addV n0 g lv l e i u w' := by
  unfold addV at h ⊢
  split at h <;> try exact h
  · obtain ⟨g', h1, h2, h3⟩ := h
    exact ⟨g', h1, obj_below h2 hb, h3⟩
  · obtain ⟨A, n, c, h1, h2, h3⟩ := h
    exact ⟨A, n, c, h1, row_below h2 hb, h3⟩
theorem addV_far {n0 g : Nat} {lv : Value} {l : List Ent} {e : Ent} (i : Nat) (u : Value) (w w' : World) (hi : i ≠ 7) (hf : Fr (fun k => lv.ownBlock = some k) w w') (h : addV n0 g lv l e i u w) : addV n0 g lv l e i u w' := by
  unfold addV at h ⊢
  split at h <;> try exact h
  · obtain ⟨g', h1, h2, h3⟩ := h
    exact ⟨g', h1, hf.obj h2 h3, h3⟩
  · exact absurd rfl hi
set_option maxHeartbeats 4000000 in
set_option maxRecDepth 100000 in
theorem add_ok (g : Nat) (size : Int) (t : List UInt8) (l : List Ent) (lv : Value) (k i b : Int) (body : ByteArray) (w : World) (h : Sg w g size t l lv) (h0 : 0 ≤ size) (h1 : size ≤ 65536) (ht : t.length ≤ 1048576) (hn : l.length ≤ 1048576)
    (hm : mayE k i b) (hf : (body.size : Int) ≤ leftOf size t.length l.length) :
    Calls Try.prog 56 #[.pointer (some ⟨g, 0, none⟩), .int .i64 k, .int .i64 i, .int .i64 b, .string body] w fun e w' => e = .returned (.tuple #[entV ⟨k, i, b, t.length, body.size⟩, .int .i64 0]) ∧
      ∃ lv', Sg w' g size (t ++ body.data.toList) (l ++ [⟨k, i, b, t.length, body.size⟩]) lv' ∧ Fr (sgF w g lv) w w' ∧ (lv'.ownBlock = lv.ownBlock ∨ ∃ k, lv'.ownBlock = some k ∧ w.heap.size ≤ k) := by
  have H := hide h
  have HM := hide (decide_eq_true hm)
  have hgl := h.lt
  clear h hm
  have hA := (Below.refl w.heap.size w).alloc (Nat.le_refl _) (.cells #[.int .i64 0, .int .i64 0, .int .i64 0, .int .i64 0, .int .i64 0] 89)
  have H1 := hide (H.out.below hA)
  go_enter Try.func56, Try.ntmps56
  go_wp2_with fail
  refine (len_any g size t l lv _ H1.out).mono ?_
  rintro e w1 ⟨rfl, hb1⟩
  have H2 := hide (H1.out.below hb1)
  have R2 := hide (obj_below (obj_new w _) hb1)
  have B2 := hide (below_step (Below.refl _ w) (Nat.le_refl _) hb1)
  have z2 := hb1.size
  simp only [World.size_alloc] at z2
  clear hb1 H1 hA
  go_wp2_with fail
  refine (may_any k i b _ _ _).mono ?_
  rintro e w2 ⟨rfl, hb2⟩
  rw [HM.out]
  have H3 := hide ((H2.out.below ((Below.refl _ w1).alloc (Nat.le_refl _) _)).below hb2)
  have R3 := hide (obj_below (obj_alloc R2.out _) hb2)
  have E3 := hide (obj_below (obj_new w1 _) hb2)
  have B3 := hide (below_step B2.out B2.out.size hb2)
  have z3 := hb2.size
  simp only [World.size_alloc] at z3
  clear hb2 H2 R2 B2
  go_wp2_with fail
  refine (left_any g size t l lv _ H3.out h0 h1 ht hn).mono ?_
  rintro e w3 ⟨rfl, hb3⟩
  have H4 := hide (H3.out.below hb3)
  have R4 := hide (obj_below R3.out hb3)
  have E4 := hide (obj_below E3.out hb3)
  have B4 := hide (below_on B3.out B3.out.size hb3)
  have z4 := hb3.size
  clear hb3 H3 R3 E3 B3
  have hcmp : ¬ leftOf size t.length l.length < (body.size : Int) := by omega
  have hbz : (body.size : Int) ≤ 65536 := by
    have := over_bound (l.length + 1)
    unfold leftOf at hf
    omega
  obtain ⟨bv, hh, hb, he⟩ := H4.out
  obtain ⟨A, c, rfl⟩ := row_slice hb
  have hg7 : ∀ k, (Value.slice A t.length c).ownBlock = some k → k ≠ g := fun k hk => by
    obtain ⟨_, cs, h5⟩ := row_typed hb hk
    exact obj_ne h5 hh (by decide)
  obtain ⟨bv', w4, hrun, hb', hf4⟩ := app_str2 hb body (by omega) (by omega) 77
  obtain ⟨A2, c2, rfl⟩ := row_slice hb'
  have hlen2 : (t ++ body.data.toList).length = t.length + body.size := by rw [List.length_append, ← size_list]
  have hb' : OwB w4 g (.slice A2 (t.length + body.size) c2) (t ++ body.data.toList) := hlen2 ▸ hb'
  have hh4 := hf4.obj hh (fun hk => hg7 g hk rfl)
  have z := obj_cell hh 1
  have y := obj_cell hh4 1
  have fz := obj_frozen hh4 1
  simp only [segC, List.getElem?_toArray, List.getElem?_cons_zero, List.getElem?_cons_succ] at z y
  have HB' := hide hb'
  have HH3 := hide hh
  have HF4 := hide hf4
  have HH4 := hide hh4
  have HE := hide he
  have HB := hide hb
  have HG7 := hide hg7
  clear hb' hf4 hh4 he hb hg7 hh H4
  go_wp2_with (at_builtin; refine wpList_append_run rfl (.tmp 41) (.tmp 42) 77 9 rfl rfl rfl hrun ?_)
  obtain ⟨A3, c3, rfl⟩ := row_slice HE.out
  obtain ⟨w5, hw5⟩ : ∃ w5, w5 = w4.setCell ⟨g, 1, none⟩ (.slice A2 (t.length + body.size) c2) := ⟨_, rfl⟩
  rw [← hw5]
  have hown : ∀ k, (Value.slice A3 l.length c3).ownBlock = some k → k < w.heap.size := fun k hk => by
    obtain ⟨_, cs, h89⟩ := row_typed H.out.choose_spec.2.2 hk
    exact obj_lt h89
  have hF5 : Fr (fun k => k = g ∨ (Value.slice A t.length c).ownBlock = some k) w3 w5 := by
    rw [hw5]
    exact (HF4.out.mono (fun k _ h => .inr h)).setCell (p := ⟨g, 1, none⟩) (fun _ => .inl rfl) _
  have hb89 : ∀ k cs, w3.heap[k]? = some (.cells cs 89 (0, 0)) → ¬ (k = g ∨ (Value.slice A t.length c).ownBlock = some k) := fun k cs hk h => by
    rcases h with rfl | h
    · exact obj_ne HH3.out hk (by decide) rfl
    · obtain ⟨_, cs5, h5⟩ := row_typed HB.out h
      exact obj_ne h5 hk (by decide) rfl
  have HH5 : Hid (w5.heap[g]? = some (.cells (segC size (.slice A2 (t.length + body.size) c2) (.slice A3 l.length c3)) 199 (0, 0))) := hide (by
    rw [hw5]
    have := obj_set HH4.out 1 (.slice A2 (t.length + body.size) c2)
    simpa [segC] using this)
  have R5 := hide (hF5.obj R4.out (hb89 _ _ R4.out))
  have E5 := hide (hF5.obj E4.out (hb89 _ _ E4.out))
  have HE5 := hide (show OwE w5 g (.slice A3 l.length c3) l from row_fr HE.out hF5 (fun k hk => by
    obtain ⟨_, cs, h89⟩ := row_typed HE.out hk
    exact hb89 k cs h89))
  have hB5 : OwB w5 g (.slice A2 (t.length + body.size) c2) (t ++ body.data.toList) := by
    rw [hw5]
    refine row_fr HB'.out ((Fr.refl (· = g) _).setCell (p := ⟨g, 1, none⟩) (fun _ => rfl) _) (fun j hj h => ?_)
    obtain ⟨_, cs, h5⟩ := row_typed HB'.out hj
    exact obj_ne h5 HH4.out (by decide) h
  have HB5 := hide hB5
  have HN : Hid (¬ (Value.slice A3 l.length c3).ownBlock = some g ∧ ¬ (Value.slice A3 l.length c3).ownBlock = some w1.heap.size ∧ w.heap.size + 1 ≤ w5.heap.size ∧ ∀ k, (Value.slice A3 l.length c3).ownBlock = some k → k < w5.heap.size) := hide
    ⟨fun h => by
      obtain ⟨_, cs, h89⟩ := row_typed HE5.out h
      exact obj_ne h89 HH5.out (by decide) rfl, fun h => by have := hown _ h; omega, by have := hF5.size; omega, fun k hk => by
      obtain ⟨_, cs, h89⟩ := row_typed HE5.out hk
      exact obj_lt h89⟩
  have HF5 := hide hF5
  clear hw5 hF5 hb89 hB5 hrun z y fz
  refine wp_region_fin (addA g k i b t.length body.size (leftOf size t.length l.length) (decide (leftOf size t.length l.length < (body.size : Int))) w.heap.size w1.heap.size body (.slice A t.length c) (.slice A2 (t.length + body.size) c2)) (fun _ => undef) (fun x w' => Fr (fun k => (Value.slice A3 l.length c3).ownBlock = some k) w5 w' ∧ (x 7 = undef → OwE w' g (.slice A3 l.length c3) l)) (addV (w.heap.size + 1) g (.slice A3 l.length c3) l ⟨k, i, b, t.length, body.size⟩) _ rfl rfl (by kernel_rfl) (by kernel_rfl) rfl ⟨(Fr.refl _ _).drew, fun _ => HE5.out⟩ ?_ ?_ ?_
  · exact ⟨fun x v => rfl, fun x v => rfl, fun x v => rfl, fun x v => rfl, fun x v => rfl, fun x v => rfl, fun x v => rfl, fun x v => rfl, fun x v => rfl, fun x v => rfl, trivial⟩
  · refine ⟨?_, ?_, ?_, ?_, ?_, ?_, ?_, ?_, ?_, ?_, trivial⟩
    · intro x w' hS hx hd K hK
      refine ⟨rfl, ?_⟩
      unfold addA at hK ⊢
      go_wp2
      exact hK (.pointer (some ⟨g, 0, none⟩)) w' hS rfl (fun _ _ _ h => h)
    · intro x w' hS hx hd K hK
      refine ⟨rfl, ?_⟩
      unfold addA at hK ⊢
      go_wp2
      exact hK (.pointer (some ⟨g, 0, none⟩)) w' hS rfl (fun _ _ _ h => h)
    · intro x w' hS hx hd K hK
      have d0 : x 1 = .pointer (some ⟨g, 0, none⟩) := by first | exact hd _ List.mem_cons_self | exact hd _ (List.mem_cons_of_mem _ List.mem_cons_self) | exact hd _ (List.mem_cons_of_mem _ (List.mem_cons_of_mem _ List.mem_cons_self)) | exact hd _ (List.mem_cons_of_mem _ (List.mem_cons_of_mem _ (List.mem_cons_of_mem _ List.mem_cons_self)))
      refine ⟨rfl, ?_⟩
      unfold addA at hK ⊢
      simp only [d0] at hK ⊢
      go_wp2
      exact hK (.pointer (some ⟨g, 0, none⟩)) w' hS rfl (fun _ _ _ h => h)
    · intro x w' hS hx hd K hK
      have d0 : x 2 = .pointer (some ⟨g, 0, none⟩) := by first | exact hd _ List.mem_cons_self | exact hd _ (List.mem_cons_of_mem _ List.mem_cons_self) | exact hd _ (List.mem_cons_of_mem _ (List.mem_cons_of_mem _ List.mem_cons_self)) | exact hd _ (List.mem_cons_of_mem _ (List.mem_cons_of_mem _ (List.mem_cons_of_mem _ List.mem_cons_self)))
      refine ⟨rfl, ?_⟩
      unfold addA at hK ⊢
      simp only [d0] at hK ⊢
      go_wp2
      exact hK (.pointer (some ⟨g, 2, none⟩)) w' hS rfl (fun _ _ _ h => h)
    · intro x w' hS hx hd K hK
      have d0 : x 3 = .pointer (some ⟨g, 2, none⟩) := by first | exact hd _ List.mem_cons_self | exact hd _ (List.mem_cons_of_mem _ List.mem_cons_self) | exact hd _ (List.mem_cons_of_mem _ (List.mem_cons_of_mem _ List.mem_cons_self)) | exact hd _ (List.mem_cons_of_mem _ (List.mem_cons_of_mem _ (List.mem_cons_of_mem _ List.mem_cons_self)))
      refine ⟨rfl, ?_⟩
      unfold addA at hK ⊢
      simp only [d0] at hK ⊢
      have z := obj_cell (hS.1.obj HH5.out HN.out.1) 2
      simp only [segC, List.getElem?_toArray, List.getElem?_cons_zero, List.getElem?_cons_succ] at z
      go_wp2
      exact hK (.slice A3 l.length c3) w' hS rfl (fun _ _ _ h => h)
    · intro x w' hS hx hd K hK
      refine ⟨rfl, ?_⟩
      unfold addA at hK ⊢
      have hE := hS.1.obj E5.out HN.out.2.1
      have z0 := obj_cell hE 0
      have z1 := obj_cell hE 1
      have z2 := obj_cell hE 2
      have z3 := obj_cell hE 3
      have z4 := obj_cell hE 4
      have hlt := obj_lt hE
      simp only [List.getElem?_toArray, List.getElem?_cons_zero, List.getElem?_cons_succ] at z0 z1 z2 z3 z4
      go_wp2
      exact hK (.agg #[.int .i64 k, .int .i64 i, .int .i64 b, .int .i64 t.length, .int .i64 body.size]) w' hS rfl (fun _ _ _ h => h)
    · intro x w' hS hx hd K hK
      have d0 : x 5 = .agg #[.int .i64 k, .int .i64 i, .int .i64 b, .int .i64 t.length, .int .i64 body.size] := by first | exact hd _ List.mem_cons_self | exact hd _ (List.mem_cons_of_mem _ List.mem_cons_self) | exact hd _ (List.mem_cons_of_mem _ (List.mem_cons_of_mem _ List.mem_cons_self)) | exact hd _ (List.mem_cons_of_mem _ (List.mem_cons_of_mem _ (List.mem_cons_of_mem _ List.mem_cons_self)))
      refine ⟨rfl, ?_⟩
      unfold addA at hK ⊢
      simp only [d0] at hK ⊢
      go_wp2
      exact hK (.slice (some ⟨w'.heap.size, 0, none⟩) 1 1) _ ⟨hS.1.alloc _, fun h => row_below (hS.2 h) ((Below.refl _ _).alloc (Nat.le_refl _) _)⟩ ⟨_, rfl, obj_new _ _, fun h => by have h1 := HN.out.2.2.2 _ h; have h2 := hS.1.size; omega⟩ (fun j u _ h => addV_below _ _ _ _ ((Below.refl _ _).alloc (Nat.le_refl _) _) h)
    · intro x w' hS hx hd K hK
      have d0 : x 4 = .slice A3 l.length c3 := by first | exact hd _ List.mem_cons_self | exact hd _ (List.mem_cons_of_mem _ List.mem_cons_self) | exact hd _ (List.mem_cons_of_mem _ (List.mem_cons_of_mem _ List.mem_cons_self)) | exact hd _ (List.mem_cons_of_mem _ (List.mem_cons_of_mem _ (List.mem_cons_of_mem _ List.mem_cons_self)))
      obtain ⟨g', d1, hg', hne'⟩ : addV (w.heap.size + 1) g (.slice A3 l.length c3) l ⟨k, i, b, t.length, body.size⟩ 6 (x 6) w' := by first | exact hd _ List.mem_cons_self | exact hd _ (List.mem_cons_of_mem _ List.mem_cons_self) | exact hd _ (List.mem_cons_of_mem _ (List.mem_cons_of_mem _ List.mem_cons_self)) | exact hd _ (List.mem_cons_of_mem _ (List.mem_cons_of_mem _ (List.mem_cons_of_mem _ List.mem_cons_self)))
      obtain ⟨v', w2, hrun, hown, hf2, hblk⟩ := app_ent (hS.2 hx) ⟨k, i, b, t.length, body.size⟩ hg' hn (by have h2 := hS.1.size; have h3 := obj_lt HH5.out; omega) 84
      obtain ⟨A4, c4, rfl⟩ := row_slice hown
      refine ⟨rfl, ?_⟩
      unfold addA at hK ⊢
      simp only [d0, d1] at hK ⊢
      refine wp_append_run (.tmp 50) (.tmp 52) 84 84 rfl rfl rfl hrun ?_
      refine hK _ w2 ⟨hS.1.trans hf2 (fun _ _ h => h), fun h => by cases h⟩ ⟨A4, _, c4, rfl, hown, hblk.imp id (fun h => ⟨_, h, by have h2 := hS.1.size; have h3 := HN.out.2.2.1; omega⟩)⟩ (fun j u hj h => addV_far _ _ _ _ hj hf2 h)
    · intro x w' hS hx hd K hK
      have d0 : x 0 = .pointer (some ⟨g, 0, none⟩) := by first | exact hd _ List.mem_cons_self | exact hd _ (List.mem_cons_of_mem _ List.mem_cons_self)
      refine ⟨rfl, ?_⟩
      unfold addA at hK ⊢
      simp only [d0] at hK ⊢
      go_wp2
      exact hK (.pointer (some ⟨g, 0, none⟩)) w' hS rfl (fun _ _ _ h => h)
    · intro x w' hS hx hd K hK
      have d0 : x 8 = .pointer (some ⟨g, 0, none⟩) := by first | exact hd _ List.mem_cons_self | exact hd _ (List.mem_cons_of_mem _ List.mem_cons_self) | exact hd _ (List.mem_cons_of_mem _ (List.mem_cons_of_mem _ List.mem_cons_self)) | exact hd _ (List.mem_cons_of_mem _ (List.mem_cons_of_mem _ (List.mem_cons_of_mem _ List.mem_cons_self)))
      refine ⟨rfl, ?_⟩
      unfold addA at hK ⊢
      simp only [d0] at hK ⊢
      go_wp2
      exact hK (.pointer (some ⟨g, 2, none⟩)) w' hS rfl (fun _ _ _ h => h)
  · intro x w' hS hv K hK
    have d0 : x 9 = .pointer (some ⟨g, 2, none⟩) := hv 9 (by decide)
    have hown := hown
    obtain ⟨A4, n4, c4, d1, hown4, hblk⟩ : addV (w.heap.size + 1) g (.slice A3 l.length c3) l ⟨k, i, b, t.length, body.size⟩ 7 (x 7) w' := hv 7 (by decide)
    refine ⟨rfl, ?_⟩
    have hh := hS.1.obj HH5.out HN.out.1
    have y := obj_cell hh 2
    have fz := obj_frozen hh 2
    simp only [segC, List.getElem?_toArray, List.getElem?_cons_zero, List.getElem?_cons_succ] at y
    have HH := hide hh
    have HO := hide hown4
    clear hh hown4
    unfold addA
    simp only [d0, d1]
    have HK := hide hK
    clear hK
    go_wp2
    refine HK.out _ _ ?_
    have hne89 : ∀ j cs, w5.heap[j]? = some (.cells cs 89 (0, 0)) → w.heap.size ≤ j → ¬ (Value.slice A3 l.length c3).ownBlock = some j := fun j cs _ hj h => by
      have := hown _ h
      omega
    have hE' := hS.1.obj E5.out (hne89 _ _ E5.out (by omega))
    have hR' := hS.1.obj R5.out (hne89 _ _ R5.out (Nat.le_refl _))
    obtain ⟨w6, hw6⟩ : ∃ w6, w6 = w'.setCell ⟨g, 2, none⟩ (.slice A4 n4 c4) := ⟨_, rfl⟩
    rw [← hw6]
    have hF6 : Fr (fun k => k = g ∨ (Value.slice A3 l.length c3).ownBlock = some k) w5 w6 := by
      rw [hw6]
      exact (hS.1.mono (fun k _ h => .inr h)).setCell (p := ⟨g, 2, none⟩) (fun _ => .inl rfl) _
    have hE6 : w6.heap[w1.heap.size]? = some (.cells #[.int .i64 k, .int .i64 i, .int .i64 b, .int .i64 t.length, .int .i64 body.size] 89 (0, 0)) := by
      rw [hw6]
      exact obj_far hE' (obj_ne hE' HH.out (by decide)) _
    have hR6 : w6.heap[w.heap.size]? = some (.cells #[.int .i64 0, .int .i64 0, .int .i64 0, .int .i64 0, .int .i64 0] 89 (0, 0)) := by
      rw [hw6]
      exact obj_far hR' (obj_ne hR' HH.out (by decide)) _
    have hH6 : w6.heap[g]? = some (.cells (segC size (.slice A2 (t.length + body.size) c2) (.slice A4 n4 c4)) 199 (0, 0)) := by
      rw [hw6]
      have := obj_set HH.out 2 (.slice A4 n4 c4)
      simpa [segC] using this
    have hO6 : OwE w6 g (.slice A4 n4 c4) (l ++ [⟨k, i, b, t.length, body.size⟩]) := by
      rw [hw6]
      exact row_fr HO.out ((Fr.refl (· = g) _).setCell (p := ⟨g, 2, none⟩) (fun _ => rfl) _) (fun j hj h => by
        obtain ⟨_, cs, h89⟩ := row_typed HO.out hj
        exact obj_ne h89 HH.out (by decide) h)
    have hB6 : OwB w6 g (.slice A2 (t.length + body.size) c2) (t ++ body.data.toList) := row_fr HB5.out hF6 (fun j hj h => by
      obtain ⟨_, cs, h5⟩ := row_typed HB5.out hj
      rcases h with rfl | h
      · exact obj_ne h5 HH5.out (by decide) rfl
      · obtain ⟨_, cs', h89⟩ := row_typed HE5.out h
        exact obj_ne h5 h89 (by decide) rfl)
    have z0 := obj_cell hE6 0
    have z1 := obj_cell hE6 1
    have z2' := obj_cell hE6 2
    have z3' := obj_cell hE6 3
    have z4' := obj_cell hE6 4
    have y0 := obj_cell hR6 0
    have y1 := obj_cell hR6 1
    have y2 := obj_cell hR6 2
    have y3 := obj_cell hR6 3
    have y4 := obj_cell hR6 4
    have f0 := obj_frozen hR6 0
    have f1 := obj_frozen hR6 1
    have f2 := obj_frozen hR6 2
    have f3 := obj_frozen hR6 3
    have f4 := obj_frozen hR6 4
    simp only [List.getElem?_toArray, List.getElem?_cons_zero, List.getElem?_cons_succ] at z0 z1 z2' z3' z4' y0 y1 y2 y3 y4
    have l1 := obj_lt hE6
    have l2 := obj_lt hR6
    have HE6 := hide hE6
    have HR6 := hide hR6
    have HH6 := hide hH6
    have HO6 := hide hO6
    have HB6 := hide hB6
    have HF6 := hide hF6
    have HK4 := hide hblk
    clear hE' hR' hne89 hw6 hF6 hE6 hR6 hH6 hO6 hB6 HK HH HO hblk y fz
    go_wp2
    refine bodyPost_ret (res_ct rfl _ _ w.heap.size 89 #[.int .i64 k, .int .i64 i, .int .i64 b, .int .i64 t.length, .int .i64 body.size] _ _ rfl (five_setT HR6.out _ _ _ _ _) Try.underlying89 rfl (by kernel_rfl)) rfl ⟨rfl, .slice A4 n4 c4, ?_, ?_, HK4.out.imp id (fun ⟨j, h1, h2⟩ => ⟨j, h1, by omega⟩)⟩
    · have hf7 := five_fr (Fr.refl (· = w.heap.size) w6) (g := w.heap.size) (fun _ => rfl) (v0 := .int .i64 k) (v1 := .int .i64 i) (v2 := .int .i64 b) (v3 := .int .i64 t.length) (v4 := .int .i64 body.size)
      refine ⟨.slice A2 (t.length + body.size) c2, hf7.obj HH6.out (by omega), row_fr HB6.out hf7 (fun j hj h => ?_), row_fr HO6.out hf7 (fun j hj h => ?_)⟩
      · obtain ⟨_, cs, h5⟩ := row_typed HB6.out hj
        exact obj_ne h5 HR6.out (by decide) h
      · rcases HK4.out with h1 | ⟨j', h1, h2⟩
        · rw [h1] at hj
          have := hown _ hj
          omega
        · rw [h1] at hj
          cases hj
          omega
    · refine five_fr (((((Fr.of_below (F := fun _ => False) B4.out).mono (fun _ _ h => False.elim h)).trans HF5.out ?_).trans HF6.out ?_)) (fun h => absurd h (Nat.lt_irrefl _))
      · rintro j hj (rfl | h)
        · exact .inl rfl
        · obtain ⟨h1, cs, h5⟩ := row_typed HB.out h
          exact .inr (.inr ⟨h1, cs, (0, 0), by rw [← B4.out.block j hj]; exact h5⟩)
      · rintro j hj (rfl | h)
        · exact .inl rfl
        · exact .inr (.inl h)
end Go.Proofs.Ytljmaicobafgkaa
end
