/- A join of 3 texts of this claim: Ord7, Nt7, FrAwake. Conditions: none of their own. -/
import Derived.Test.YtljmaicobafgkaaN3
import Derived.Test.YtljmaicobafgkaaN5
section
/- A region that draws its order, by what each operation yields; an operation knows that all it waits for, through others too, has come up. -/
namespace Go.Proofs.Ytljmaicobafgkaa
open Go.RowKit

section
variable {P : Program} {ops : Array Oper} {Q : Exit → Act → World → Prop}
def ancsOf (m : List Nat) (l : List Edge) : Nat := l.foldl (fun acc e => if Region.binds .any e = true then (acc ||| 2 ^ e.on) ||| m.getD e.on 0 else acc) 0
/-- Of the first n operations, all that each waits for, as bits. -/
def ancs (ops : Array Oper) : Nat → List Nat
  | 0 => []
  | n + 1 => ancs ops n ++ [match ops[n]? with | some o => ancsOf (ancs ops n) o.after.toList | none => 0]
theorem ancs_length (ops : Array Oper) : ∀ n, (ancs ops n).length = n
  | 0 => rfl
  | n + 1 => by simp [ancs, ancs_length ops n]
theorem ancsOf_fold (m : List Nat) (j : Nat) : ∀ (l : List Edge) (acc : Nat), (l.foldl (fun acc e => if Region.binds .any e = true then (acc ||| 2 ^ e.on) ||| m.getD e.on 0 else acc) acc).testBit j = true →
    acc.testBit j = true ∨ ∃ e ∈ l, Region.binds .any e = true ∧ (e.on = j ∨ (m.getD e.on 0).testBit j = true)
  | [], acc, h => .inl h
  | e :: l, acc, h => by
    rw [List.foldl_cons] at h
    rcases ancsOf_fold m j l _ h with h1 | ⟨e', he', h2⟩
    · by_cases hb : Region.binds .any e = true
      · rw [if_pos hb, Nat.testBit_or, Nat.testBit_or, Nat.testBit_two_pow] at h1
        simp only [Bool.or_eq_true, decide_eq_true_eq] at h1
        rcases h1 with (h1 | h1) | h1
        · exact .inl h1
        · exact .inr ⟨e, List.mem_cons_self, hb, .inl h1⟩
        · exact .inr ⟨e, List.mem_cons_self, hb, .inr h1⟩
      · rw [if_neg hb] at h1
        exact .inl h1
    · exact .inr ⟨e', List.mem_cons_of_mem _ he', h2⟩
theorem ancs_sound {d : Nat → Bool} (hc : ∀ (j : Nat) (o : Oper), ops[j]? = some o → d j = true → ∀ e ∈ o.after, Region.binds .any e = true → d e.on = true) :
    ∀ n i j, ((ancs ops n).getD i 0).testBit j = true → d i = true → d j = true
  | 0, i, j, h, _ => by simp [ancs] at h
  | n + 1, i, j, h, hi => by
    have hl := ancs_length ops n
    unfold ancs at h
    rw [List.getD_eq_getElem?_getD] at h
    rcases Nat.lt_trichotomy i n with h1 | rfl | h1
    · rw [List.getElem?_append_left (by omega), ← List.getD_eq_getElem?_getD] at h
      exact ancs_sound hc n i j h hi
    · rw [List.getElem?_append_right (by omega), hl, Nat.sub_self, List.getElem?_cons_zero, Option.getD_some] at h
      rcases ho : ops[i]? with _ | o
      · rw [ho] at h
        simp at h
      · rw [ho] at h
        rcases ancsOf_fold _ j _ 0 h with h2 | ⟨e, he, hb, h2⟩
        · simp at h2
        · have h3 := hc i o ho hi e (by simpa using he) hb
          rcases h2 with h2 | h2
          · exact h2 ▸ h3
          · exact ancs_sound hc i e.on j h2 h3
    · rw [List.getElem?_append_right (by omega), List.getElem?_eq_none (by simp; omega)] at h
      simp at h
def ancB (ops : Array Oper) (i j : Nat) : Bool := ((ancs ops ops.size).getD i 0).testBit j
def StepsC (P : Program) (ops : Array Oper) (Q : Exit → Act → World → Prop) (A : (Nat → Value) → Act) (S : (Nat → Bool) → (Nat → Value) → World → Prop) (V : Nat → Value → Prop) : List Oper → Nat → Prop
  | [], _ => True
  | o :: l, i => (∀ d x w, S d x w → d i = false → (∀ j, d j = true → V j (x j)) → (∀ j, ancB ops i j = true → d j = true) → (∀ k j, d k = true → ancB ops k j = true → d j = true) → ∀ K : Act → World → Prop,
      (∀ v w', S (fun j => if j = i then true else d j) (fun j => if j = i then v else x j) w' → V i v → K ((A x).put o.dst v) w') → Region.wanted o (yielded ops (A x).tmps) = true ∧ Oper.wp P o (A x) w K Q) ∧ StepsC P ops Q A S V l (i + 1)
theorem StepsC.get {A : (Nat → Value) → Act} {S : (Nat → Bool) → (Nat → Value) → World → Prop} {V : Nat → Value → Prop} : ∀ (l : List Oper) (k : Nat), StepsC P ops Q A S V l k → ∀ (i : Nat) (o : Oper), l[i]? = some o →
    ∀ d x w, S d x w → d (k + i) = false → (∀ j, d j = true → V j (x j)) → (∀ j, ancB ops (k + i) j = true → d j = true) → (∀ k j, d k = true → ancB ops k j = true → d j = true) → ∀ K : Act → World → Prop,
      (∀ v w', S (fun j => if j = k + i then true else d j) (fun j => if j = k + i then v else x j) w' → V (k + i) v → K ((A x).put o.dst v) w') → Region.wanted o (yielded ops (A x).tmps) = true ∧ Oper.wp P o (A x) w K Q
  | [], _, _, _, _, h => by simp at h
  | _ :: _, _, hs, 0, _, h => by
    simp only [List.getElem?_cons_zero, Option.some.injEq] at h
    subst h
    exact hs.1
  | _ :: l, k, hs, i + 1, o, h => by
    have := StepsC.get l (k + 1) hs.2 i o (by simpa using h)
    rw [show k + 1 + i = k + (i + 1) from by omega] at this
    exact this
theorem wp_region_c {id : Nat} (F : (Nat → Value) → (Nat → Value) → Act) (pos : Nat → Nat) (S : (Nat → Bool) → (Nat → Value) → World → Prop) (V : Nat → Value → Prop) {a : Act} {w : World}
    (hm : P.follows .mixedOrders = true) (hord : orderedB ops = true) (ha : a = F (fun j => a.tmps.getD j undef) (fun j => a.tmps.getD (pos j) undef)) (h0 : S (fun _ => false) (fun j => a.tmps.getD (pos j) undef) w.drew)
    (hput : ∀ u, Puts (F u) ops.toList 0) (hstep : ∀ u, StepsC P ops Q (F u) S V ops.toList 0)
    (hdone : ∀ u, (u = fun j => a.tmps.getD j undef) → ∀ d x w', S d x w' → (∀ i, i < ops.size → d i = true) → (∀ i, i < ops.size → V i (x i)) → Q .normal (F u x) w') : (Code.region id ops true).wp P Q a w := by
  obtain ⟨u, hu⟩ : ∃ u : Nat → Value, u = fun j => a.tmps.getD j undef := ⟨_, rfl⟩
  have hput1 := hput u
  have hstep1 := hstep u
  have hdone1 := hdone u hu
  clear hput hstep hdone
  rw [← hu] at ha
  generalize (fun j => a.tmps.getD (pos j) undef) = x0 at ha h0
  subst ha
  clear hu
  refine wp_region_any hm (wpAny_inv (fun li a w => ∃ x, a = F u x ∧ S (fun j => li.getD j false) x w ∧ Closed ops li ∧ li.size = ops.size ∧ ∀ i, li.getD i false = true → V i (x i)) hord ?_ ?_ _ _ _ _ (by simp) ?_ ⟨x0, rfl, ?_, ?_, ?_, ?_⟩)
  · rintro l a w _ ⟨x, rfl, hs, hc, hz, hv⟩ hall
    exact hdone1 _ x w hs hall fun i hi => hv i (hall i hi)
  · rintro i o ho l a w ⟨x, rfl, hs, hc, hz, hv⟩ h0 hdep K hK
    have hl : ops.toList[i]? = some o := by rw [Array.getElem?_toList]; exact ho
    have hi2 : i < ops.size := (Array.getElem?_eq_some_iff.1 ho).1
    have hil : i < l.size := by omega
    have hdi : l.getD i false = false := by
      simp only [Array.getD_eq_getD_getElem?, Array.getElem?_eq_getElem hil, Option.getD_some] at h0 ⊢
      exact h0
    have hset : (fun j => (l.setIfInBounds i true).getD j false) = fun j => if j = 0 + i then true else l.getD j false := by
      funext j
      rw [Nat.zero_add]
      by_cases hji : j = i
      · subst hji
        simp [hil]
      · rw [getD_set_ne false (Ne.symm hji), if_neg hji]
    have hc2 : Closed ops (l.setIfInBounds i true) := by
      intro j o' ho' hj e he hb
      have hget : ∀ k, (l.setIfInBounds i true).getD k false = if k = i then true else l.getD k false := fun k => by
        have := congrFun hset k
        simpa using this
      rw [hget] at hj ⊢
      by_cases hji : j = i
      · subst hji
        rw [ho] at ho'
        cases ho'
        split
        · rfl
        · exact hdep e he hb
      · rw [if_neg hji] at hj
        split
        · rfl
        · exact hc j o' ho' hj e he hb
    have hanc : ∀ k j, l.getD k false = true → ancB ops k j = true → l.getD j false = true := fun k j hk hj => ancs_sound (d := fun j => l.getD j false) (fun j o ho hj => hc j o ho hj) ops.size k j hj hk
    have hanc2 : ∀ j, ancB ops i j = true → j ≠ i → l.getD j false = true := fun j hj hne => by
      have h := ancs_sound (ops := ops) (d := fun j => (l.setIfInBounds i true).getD j false) (fun j o ho hj => hc2 j o ho hj) ops.size i j hj (by simp [hil])
      rwa [getD_set_ne false (Ne.symm hne)] at h
    have hg : Region.wanted o (yielded ops (F u x).tmps) = true ∧ Oper.wp P o (F u x) w K Q := by
      refine StepsC.get ops.toList 0 hstep1 i o hl (fun j => l.getD j false) x w hs (by rw [Nat.zero_add]; exact hdi) hv (fun j hj => ?_) hanc K fun v w' hs' hv' => hK _ _ ⟨fun j => if j = 0 + i then v else x j, Puts.get ops.toList 0 hput1 i o hl x v, by rw [hset]; exact hs', hc2, by simpa using hz, fun j hj => ?_⟩
      · rw [Nat.zero_add] at hj
        by_cases hji : j = i
        · subst hji
          exfalso
          have hlt : ∀ n k j, ((ancs ops n).getD k 0).testBit j = true → j < k := by
            intro n
            induction n with
            | zero => intro k j h; simp [ancs] at h
            | succ n ih =>
              intro k j h
              have hl := ancs_length ops n
              unfold ancs at h
              rw [List.getD_eq_getElem?_getD] at h
              rcases Nat.lt_trichotomy k n with h1 | rfl | h1
              · rw [List.getElem?_append_left (by omega), ← List.getD_eq_getElem?_getD] at h
                exact ih k j h
              · rw [List.getElem?_append_right (by omega), hl, Nat.sub_self, List.getElem?_cons_zero, Option.getD_some] at h
                rcases ho : ops[k]? with _ | o
                · rw [ho] at h
                  simp at h
                · rw [ho] at h
                  rcases ancsOf_fold _ j _ 0 h with h2 | ⟨e, he, hb, h2⟩
                  · simp at h2
                  · have h3 := orderedB_spec hord ho e (by simpa using he) hb
                    rcases h2 with h2 | h2
                    · omega
                    · have := ih e.on j h2
                      omega
              · rw [List.getElem?_append_right (by omega), List.getElem?_eq_none (by simp; omega)] at h
                simp at h
          exact absurd (hlt _ _ _ hj) (by omega)
        · exact hanc2 j hj hji
      · by_cases hji : j = i
        · subst hji
          show V j (if j = 0 + j then v else x j)
          rw [Nat.zero_add, if_pos rfl]
          rw [Nat.zero_add] at hv'
          exact hv'
        · show V j (if j = 0 + i then v else x j)
          rw [Nat.zero_add, if_neg hji]
          rw [getD_set_ne false (Ne.symm hji)] at hj
          exact hv j hj
    rw [if_pos hg.1]
    exact hg.2
  · simp
  · have : (fun j => (Array.replicate ops.size false).getD j false) = fun _ => false := by
      funext j
      simp [Array.getElem?_replicate]
      split <;> rfl
    rw [this]
    exact h0
  · intro j o ho hj
    exfalso
    simp [Array.getElem?_replicate] at hj
    split at hj <;> simp at hj
  · simp
  · intro i hi
    exfalso
    simp [Array.getElem?_replicate] at hi
    split at hi <;> simp at hi
end
end Go.Proofs.Ytljmaicobafgkaa
end
section
/- Chapter 13, net: Double. -/
namespace Go.Proofs.Ytljmaicobafgkaa
open Go.RowKit

section
variable {P : Program} {w : World}
theorem wp_append_n {o : Oper} {a : Act} {K : Act → World → Prop} {Q : Exit → Act → World → Prop} (s x : Operand) (t u : TypeId)
    (ho : o.op = .call { callee := .builtin .append, args := #[s, x], argTypes := #[t, u] }) {vs vx v' : Value} {w' : World} (hs : a.eval s = vs) (hx : a.eval x = vx)
    (hrun : (Builtin.append_ #[t, u] o.type #[vs, vx]).run P w = .ok v' w') (h : K (a.put o.dst v') w') : Oper.wp P o a w K Q := by
  unfold Oper.wp execOp
  simp only [ho, resolve, invoke, builtin, Sem.run_bind, Sem.run_pure, Result.andThen_ok, List.map_toArray, List.map_cons, List.map_nil, hs, hx, hrun]
  exact h
end
theorem row_slice_n {w : World} {B : Nat} {e : TypeId} {size : Nat} {v : Value} {n : Nat} {xs : List Value} (h : w.ownsRow B e size v n xs) : ∃ A c, v = .slice A n c := by
  rcases h.2 with ⟨rfl, rfl⟩ | ⟨g, cap, cur, rfl, _⟩
  · exact ⟨_, _, rfl⟩
  · exact ⟨_, _, rfl⟩
/-- One parcel onto a row of parcels. -/
theorem app_pcl {w : World} {v : Value} {l : List Pcl} (h : w.ownsRow 0 214 3 v l.length (wayVals l)) (p : Pcl) {b : Nat} (hb : w.heap[b]? = some (.cells p.cells.toArray 214 (0, 0))) (hl : l.length ≤ 1048576) (ty : TypeId) :
    ∃ v' w', (Builtin.append_ #[207, 207] ty #[v, .slice (some ⟨b, 0, none⟩) 1 1]).run Try.prog w = .ok v' w' ∧ w'.ownsRow 0 214 3 v' (l ++ [p]).length (wayVals (l ++ [p])) ∧ Fr (fun j => v.ownBlock = some j) w w' ∧
      (v'.ownBlock = v.ownBlock ∨ v'.ownBlock = some w.heap.size) := by
  obtain ⟨i0, hi0, hz0, hz1, hz2⟩ := info214_parts
  obtain ⟨v', w', hrun, hown, hg, _, hv⟩ := run_append_own_at (P := Try.prog) w 0 207 ty 214 i0 (.agg #[.int .i64 0, .int .i64 0, .string ⟨#[]⟩]) 3 32 Try.underlying207 hi0 hz0 hz1 hz2 rfl (by decide) v l.length (wayVals l) h ⟨b, 0, none⟩ 1 1 p.cells rfl (fun j u hu => by rw [add_plain', Nat.zero_add, obj_cell hb, ← Array.getElem?_toList]; exact hu) (fun u hu => wv_one u (l := [p]) (by simpa [wayVals] using hu)) (by simp only [maxLen]; omega) (by omega) (Nat.zero_le _)
  refine ⟨v', w', hrun, ?_, (Fr.refl _ w).grown hg (fun k hk _ => hk), hv⟩
  rw [wv_app, List.length_append, show wayVals [p] = p.cells from by simp [wayVals]]
  exact hown
theorem row_ne_t {w : World} {B : Nat} {e : TypeId} {size : Nat} {v : Value} {n : Nat} {xs : List Value} (h : w.ownsRow B e size v n xs) {k : Nat} {cs : Array Value} {t : TypeId} {f : Nat × Nat} (hk : w.heap[k]? = some (.cells cs t f)) (ht : t ≠ e) : v.ownBlock ≠ some k := by
  intro he
  rcases h.2 with ⟨rfl, _⟩ | ⟨g', cap, cur, rfl, h2, h3, h4⟩
  · cases he
  · cases he
    rw [hk] at h3
    simp only [Option.some.injEq, Obj.cells.injEq] at h3
    exact ht h3.2.1
theorem row_ne_m {w : World} {B : Nat} {e : TypeId} {size : Nat} {v : Value} {n : Nat} {xs : List Value} (h : w.ownsRow B e size v n xs) {c : Nat} {C : Int × Int → Bool} (hc : CM w c C) : v.ownBlock ≠ some c := by
  intro he
  obtain ⟨es, k, hc, _⟩ := hc
  rcases h.2 with ⟨rfl, _⟩ | ⟨g', cap, cur, rfl, h2, h3, h4⟩
  · cases he
  · cases he
    rw [hc] at h3
    cases h3
theorem cm_ne {w : World} {c k : Nat} {C : Int × Int → Bool} (hc : CM w c C) {cs : Array Value} {t : TypeId} {f : Nat × Nat} (hk : w.heap[k]? = some (.cells cs t f)) : k ≠ c := by
  rintro rfl
  obtain ⟨es, ck, h, _⟩ := hc
  rw [hk] at h
  cases h
theorem obj_ne_t {w : World} {k j : Nat} {cs cs' : Array Value} {t t' : TypeId} {f f' : Nat × Nat} (hk : w.heap[k]? = some (.cells cs t f)) (hj : w.heap[j]? = some (.cells cs' t' f')) (h : t ≠ t') : k ≠ j := by
  rintro rfl
  rw [hk] at hj
  simp only [Option.some.injEq, Obj.cells.injEq] at hj
  exact h hj.2.1
def dblN (N : NetS) (k : Nat) (hk : k < N.way.length) : NetS := ⟨N.n, N.way ++ [N.way[k]], N.cuts⟩
def DblS (w0 : World) (g c bn r cap : Nat) (nn : Int) (l : List Pcl) (L : Int × Int → Bool) (p : Pcl) (d : Nat → Bool) (x : Nat → Value) (w : World) : Prop :=
  w.heap[bn]? = some (.cells #[.pointer (some ⟨g, 0, none⟩)] 107 (0, 0)) ∧ CM w c L ∧ Fr (fun j => j = g ∨ j = r) w0 w ∧
    w.heap[g]? = some (.cells #[.int .i64 nn, if d 16 = true then x 13 else .slice (some ⟨r, 0, none⟩) l.length cap, .map (some c)] 209 (0, 0)) ∧
    (if d 13 = true then w.ownsRow 0 214 3 (x 13) (l ++ [p]).length (wayVals (l ++ [p])) else w.ownsRow 0 214 3 (.slice (some ⟨r, 0, none⟩) l.length cap) l.length (wayVals l)) ∧
    (d 12 = true → d 13 = false → ∃ b, x 12 = .slice (some ⟨b, 0, none⟩) 1 1 ∧ w.heap[b]? = some (.cells p.cells.toArray 214 (0, 0))) ∧
    (d 13 = true → ∀ k, (x 13).ownBlock = some k → k = r ∨ w0.heap.size ≤ k)
def dblA (k bn : Nat) (u x : Nat → Value) : Act := ⟨#[.int .i64 (k : Int), .pointer (some ⟨bn, 0, none⟩), u 2, x 0, x 1, x 2, x 3, x 4, x 5, x 6, x 7, x 8, x 9, x 10, x 11, x 12, x 13, x 14, x 15], []⟩
def dblV (g r cap n k : Nat) (p : Pcl) (i : Nat) (v : Value) : Prop :=
  match i with
  | 0 => v = .pointer (some ⟨g, 0, none⟩)
  | 1 => v = .pointer (some ⟨g, 0, none⟩)
  | 2 => v = .pointer (some ⟨g, 0, none⟩)
  | 3 => v = .pointer (some ⟨g, 1, none⟩)
  | 4 => v = .slice (some ⟨r, 0, none⟩) n cap
  | 5 => v = .pointer (some ⟨g, 0, none⟩)
  | 6 => v = .pointer (some ⟨g, 0, none⟩)
  | 7 => v = .pointer (some ⟨g, 1, none⟩)
  | 8 => v = .slice (some ⟨r, 0, none⟩) n cap
  | 9 => v = .int .i64 (k : Int)
  | 10 => v = .pointer (some ⟨r, k * 3, none⟩)
  | 11 => v = .agg #[.int .i64 p.a, .int .i64 p.b, .string ⟨p.s.toArray⟩]
  | 14 => v = .pointer (some ⟨g, 0, none⟩)
  | 15 => v = .pointer (some ⟨g, 1, none⟩)
  | _ => True
set_option maxHeartbeats 4000000 in
set_option maxRecDepth 100000 in
theorem dbl1_any {w : World} {g c bn r cap : Nat} {N : NetS} (h : NT w g (.slice (some ⟨r, 0, none⟩) N.way.length cap) c N) (hbn : w.heap[bn]? = some (.cells #[.pointer (some ⟨g, 0, none⟩)] 107 (0, 0))) {k : Nat} (hk : k < N.way.length) (hl : N.way.length ≤ 1048576) :
    Calls Try.prog 138 #[.int .i64 (k : Int), .pointer (some ⟨bn, 0, none⟩)] w fun e w' => e = .returned (.tuple #[]) ∧ (∃ v', NT w' g v' c (dblN N k hk) ∧ ∀ k, v'.ownBlock = some k → k = r ∨ w.heap.size ≤ k) ∧ Fr (fun j => j = g ∨ j = r) w w' := by
  obtain ⟨nn, l, L⟩ := N
  simp only at h hk hl ⊢
  obtain ⟨p, hpk⟩ : ∃ p, p = l[k] := ⟨_, rfl⟩
  have HPK := hide (show dblN ⟨nn, l, L⟩ k hk = ⟨nn, l ++ [p], L⟩ from by rw [hpk]; rfl)
  rw [HPK.out]
  have HPL := hide hpk
  clear hpk
  have hcap := row_cap h.2.1
  have hcm : cap ≤ 9223372036854775807 := by have := hcap.2; simp only [maxLen] at this; omega
  have hca := hcap.1
  have HN := hide h
  have HBN := hide hbn
  clear h hbn hcap
  go_enter Try.func138, Try.ntmps138
  refine wp_region_c (dblA k bn) (fun j => #[3, 4, 5, 6, 7, 8, 9, 10, 11, 12, 13, 14, 15, 16, 17, 18, 0].getD j 0) (fun d x w' => DblS w g c bn r cap nn l L p d x w') (fun qi qv => dblV g r cap l.length k p qi qv) (by kernel_rfl) (by kernel_rfl) rfl ⟨HBN.out, HN.out.2.2, (Fr.refl _ w).drew, by rw [if_neg (by decide)]; exact HN.out.1, by rw [if_neg (by decide)]; exact row_draw HN.out.2.1, (fun e => by cases e), (fun e => by cases e)⟩ ?_ ?_ ?_
  · exact fun u => ⟨fun x v => rfl, fun x v => rfl, fun x v => rfl, fun x v => rfl, fun x v => rfl, fun x v => rfl, fun x v => rfl, fun x v => rfl, fun x v => rfl, fun x v => rfl, fun x v => rfl, fun x v => rfl, fun x v => rfl, fun x v => rfl, fun x v => rfl, fun x v => rfl, fun x v => rfl, trivial⟩
  · refine fun u => ⟨?_, ?_, ?_, ?_, ?_, ?_, ?_, ?_, ?_, ?_, ?_, ?_, ?_, ?_, ?_, ?_, ?_, trivial⟩
    · intro d x w' hS hdi hv hp hcl K hK
      have z := obj_cell hS.1 0
      simp only [List.getElem?_toArray, List.getElem?_cons_zero] at z
      refine ⟨rfl, ?_⟩
      unfold dblA at hK ⊢
      go_wp2
      exact hK (.pointer (some ⟨g, 0, none⟩)) w' hS rfl
    · intro d x w' hS hdi hv hp hcl K hK
      have z := obj_cell hS.1 0
      simp only [List.getElem?_toArray, List.getElem?_cons_zero] at z
      refine ⟨rfl, ?_⟩
      unfold dblA at hK ⊢
      go_wp2
      exact hK (.pointer (some ⟨g, 0, none⟩)) w' hS rfl
    · intro d x w' hS hdi hv hp hcl K hK
      have d0 : x 1 = .pointer (some ⟨g, 0, none⟩) := hv 1 (hp 1 (by kernel_rfl))
      have z := obj_cell hS.2.2.2.1 0
      refine ⟨rfl, ?_⟩
      unfold dblA at hK ⊢
      simp only [d0] at hK ⊢
      go_wp2
      exact hK (.pointer (some ⟨g, 0, none⟩)) w' hS rfl
    · intro d x w' hS hdi hv hp hcl K hK
      have d0 : x 2 = .pointer (some ⟨g, 0, none⟩) := hv 2 (hp 2 (by kernel_rfl))
      refine ⟨rfl, ?_⟩
      unfold dblA at hK ⊢
      simp only [d0] at hK ⊢
      go_wp2
      exact hK (.pointer (some ⟨g, 1, none⟩)) w' hS rfl
    · intro d x w' hS hdi hv hp hcl K hK
      have d0 : x 3 = .pointer (some ⟨g, 1, none⟩) := hv 3 (hp 3 (by kernel_rfl))
      have n16 : ¬ d 16 = true := fun e => by have := hcl 16 4 e (by kernel_rfl); rw [hdi] at this; cases this
      have z := obj_cell hS.2.2.2.1 1
      rw [if_neg n16] at z
      simp only [List.getElem?_toArray, List.getElem?_cons_zero, List.getElem?_cons_succ] at z
      refine ⟨rfl, ?_⟩
      unfold dblA at hK ⊢
      simp only [d0] at hK ⊢
      go_wp2
      exact hK (.slice (some ⟨r, 0, none⟩) l.length cap) w' hS rfl
    · intro d x w' hS hdi hv hp hcl K hK
      have z := obj_cell hS.1 0
      simp only [List.getElem?_toArray, List.getElem?_cons_zero] at z
      refine ⟨rfl, ?_⟩
      unfold dblA at hK ⊢
      go_wp2
      exact hK (.pointer (some ⟨g, 0, none⟩)) w' hS rfl
    · intro d x w' hS hdi hv hp hcl K hK
      have d0 : x 5 = .pointer (some ⟨g, 0, none⟩) := hv 5 (hp 5 (by kernel_rfl))
      have z := obj_cell hS.2.2.2.1 0
      refine ⟨rfl, ?_⟩
      unfold dblA at hK ⊢
      simp only [d0] at hK ⊢
      go_wp2
      exact hK (.pointer (some ⟨g, 0, none⟩)) w' hS rfl
    · intro d x w' hS hdi hv hp hcl K hK
      have d0 : x 6 = .pointer (some ⟨g, 0, none⟩) := hv 6 (hp 6 (by kernel_rfl))
      refine ⟨rfl, ?_⟩
      unfold dblA at hK ⊢
      simp only [d0] at hK ⊢
      go_wp2
      exact hK (.pointer (some ⟨g, 1, none⟩)) w' hS rfl
    · intro d x w' hS hdi hv hp hcl K hK
      have d0 : x 7 = .pointer (some ⟨g, 1, none⟩) := hv 7 (hp 7 (by kernel_rfl))
      have n16 : ¬ d 16 = true := fun e => by have := hcl 16 8 e (by kernel_rfl); rw [hdi] at this; cases this
      have z := obj_cell hS.2.2.2.1 1
      rw [if_neg n16] at z
      simp only [List.getElem?_toArray, List.getElem?_cons_zero, List.getElem?_cons_succ] at z
      refine ⟨rfl, ?_⟩
      unfold dblA at hK ⊢
      simp only [d0] at hK ⊢
      go_wp2
      exact hK (.slice (some ⟨r, 0, none⟩) l.length cap) w' hS rfl
    · intro d x w' hS hdi hv hp hcl K hK
      refine ⟨rfl, ?_⟩
      unfold dblA at hK ⊢
      go_wp2
      exact hK (.int .i64 (k : Int)) w' hS rfl
    · intro d x w' hS hdi hv hp hcl K hK
      have d0 : x 8 = .slice (some ⟨r, 0, none⟩) l.length cap := hv 8 (hp 8 (by kernel_rfl))
      have d1 : x 9 = .int .i64 (k : Int) := hv 9 (hp 9 (by kernel_rfl))
      refine ⟨rfl, ?_⟩
      unfold dblA at hK ⊢
      simp only [d0, d1] at hK ⊢
      go_wp2
      exact hK (.pointer (some ⟨r, k * 3, none⟩)) w' hS rfl
    · intro d x w' hS hdi hv hp hcl K hK
      have d0 : x 10 = .pointer (some ⟨r, k * 3, none⟩) := hv 10 (hp 10 (by kernel_rfl))
      have n13 : ¬ d 13 = true := fun e => by have := hcl 13 11 e (by kernel_rfl); rw [hdi] at this; cases this
      have hrw := hS.2.2.2.2.1
      rw [if_neg n13] at hrw
      obtain ⟨p0, p1, p2⟩ := row_cells hrw hk
      rw [← HPL.out] at p0 p1 p2
      refine ⟨rfl, ?_⟩
      unfold dblA at hK ⊢
      simp only [d0] at hK ⊢
      go_wp2
      exact hK (.agg #[.int .i64 p.a, .int .i64 p.b, .string ⟨p.s.toArray⟩]) w' hS rfl
    · intro d x w' hS hdi hv hp hcl K hK
      have d0 : x 11 = .agg #[.int .i64 p.a, .int .i64 p.b, .string ⟨p.s.toArray⟩] := hv 11 (hp 11 (by kernel_rfl))
      have hbl := (Below.refl w'.heap.size w').alloc (Nat.le_refl _) (.cells #[.int .i64 p.a, .int .i64 p.b, .string ⟨p.s.toArray⟩] 214)
      refine ⟨rfl, ?_⟩
      unfold dblA at hK ⊢
      simp only [d0] at hK ⊢
      go_wp2
      refine hK (.slice (some ⟨w'.heap.size, 0, none⟩) 1 1) _ ⟨obj_alloc hS.1 _, hS.2.1.below hbl, hS.2.2.1.alloc _, obj_alloc hS.2.2.2.1 _, ?_, fun _ _ => ⟨_, rfl, obj_new _ _⟩, hS.2.2.2.2.2.2⟩ trivial
      split
      · exact row_below (by have h := hS.2.2.2.2.1; rwa [if_pos (by assumption)] at h) hbl
      · exact row_below (by have h := hS.2.2.2.2.1; rwa [if_neg (by assumption)] at h) hbl
    · intro d x w' hS hdi hv hp hcl K hK
      have d0 : x 4 = .slice (some ⟨r, 0, none⟩) l.length cap := hv 4 (hp 4 (by kernel_rfl))
      have n13 : ¬ d 13 = true := by rw [hdi]; decide
      have n16 : ¬ d 16 = true := fun e => by have := hcl 16 13 e (by kernel_rfl); rw [hdi] at this; cases this
      have hrw := hS.2.2.2.2.1
      rw [if_neg n13] at hrw
      obtain ⟨b, e12, hob⟩ := hS.2.2.2.2.2.1 (hp 12 (by kernel_rfl)) hdi
      obtain ⟨v2, w2, hrun, hown2, hf2, hv2⟩ := app_pcl hrw p hob (by omega) 207
      have hov : ∀ k, v2.ownBlock = some k → k = r ∨ w.heap.size ≤ k := fun k e => by
        rcases hv2 with e2 | e2
        · rw [e2] at e; cases e; exact .inl rfl
        · rw [e2] at e; cases e; exact .inr hS.2.2.1.size
      refine ⟨rfl, ?_⟩
      unfold dblA at hK ⊢
      simp only [d0, e12] at hK ⊢
      refine wp_append_n (.tmp 7) (.tmp 15) 207 207 rfl rfl rfl hrun ?_
      refine hK v2 w2 ⟨hf2.obj hS.1 (row_ne_t hrw hS.1 (by decide)), hS.2.1.fr hf2 (row_ne_m hrw hS.2.1), hS.2.2.1.trans hf2 (fun i _ e => .inr (by cases e; rfl)), ?_, ?_, (fun _ e => by simp at e), fun _ => hov⟩ trivial
      · have h := hf2.obj hS.2.2.2.1 (row_ne_t hrw hS.2.2.2.1 (by decide))
        rw [if_neg n16] at h
        show w2.heap[g]? = some (.cells #[.int .i64 nn, if d 16 = true then _ else _, .map (some c)] 209 (0, 0))
        rw [if_neg n16]
        exact h
      · rw [if_pos (by simp)]
        exact hown2
    · intro d x w' hS hdi hv hp hcl K hK
      have d0 : x 0 = .pointer (some ⟨g, 0, none⟩) := hv 0 (hp 0 (by kernel_rfl))
      have z := obj_cell hS.2.2.2.1 0
      refine ⟨rfl, ?_⟩
      unfold dblA at hK ⊢
      simp only [d0] at hK ⊢
      go_wp2
      exact hK (.pointer (some ⟨g, 0, none⟩)) w' hS rfl
    · intro d x w' hS hdi hv hp hcl K hK
      have d0 : x 14 = .pointer (some ⟨g, 0, none⟩) := hv 14 (hp 14 (by kernel_rfl))
      refine ⟨rfl, ?_⟩
      unfold dblA at hK ⊢
      simp only [d0] at hK ⊢
      go_wp2
      exact hK (.pointer (some ⟨g, 1, none⟩)) w' hS rfl
    · intro d x w' hS hdi hv hp hcl K hK
      have d0 : x 15 = .pointer (some ⟨g, 1, none⟩) := hv 15 (hp 15 (by kernel_rfl))
      have y13 : d 13 = true := hp 13 (by kernel_rfl)
      have hrw := hS.2.2.2.2.1
      rw [if_pos y13] at hrw
      obtain ⟨A5, c5, e13⟩ := row_slice_n hrw
      generalize (l ++ [p]).length = m5 at e13
      have z := obj_cell hS.2.2.2.1 1
      simp only [List.getElem?_toArray, List.getElem?_cons_zero, List.getElem?_cons_succ] at z
      have tz := obj_frozen hS.2.2.2.1 1
      refine ⟨rfl, ?_⟩
      unfold dblA at hK ⊢
      simp only [d0, e13] at hK ⊢
      go_wp2
      have F := (Fr.refl (fun j => j = g) w').setCell (p := ⟨g, 1, none⟩) (fun _ => rfl) (.slice A5 m5 c5)
      refine hK undef _ ⟨F.obj hS.1 (obj_ne_t hS.1 hS.2.2.2.1 (by decide)), hS.2.1.fr F (cm_ne hS.2.1 hS.2.2.2.1).symm, hS.2.2.1.trans F (fun i _ e => .inl e), ?_, ?_, (fun _ e => by simp [y13] at e), hS.2.2.2.2.2.2⟩ trivial
      · rw [if_pos (by simp)]
        show _ = some (Obj.cells #[.int .i64 nn, x 13, .map (some c)] 209 (0, 0))
        rw [e13]
        exact obj_set hS.2.2.2.1 1 _
      · show if d 13 = true then _ else _
        rw [if_pos y13]
        exact row_fr hrw F (fun j e h => by subst h; exact row_ne_t hrw hS.2.2.2.1 (by decide) e)
  · intro u hu d x w' hS hd hv
    have h13 := hd 13 (by decide)
    have h16 := hd 16 (by decide)
    obtain ⟨s1, s2, s3, s4, s5, s6, s7⟩ := hS
    rw [if_pos h16] at s4
    rw [if_pos h13] at s5
    have HP := hide (show (∃ v', NT w' g v' c ⟨nn, l ++ [p], L⟩ ∧ ∀ k, v'.ownBlock = some k → k = r ∨ w.heap.size ≤ k) ∧ Fr (fun j => j = g ∨ j = r) w w' from ⟨⟨_, ⟨s4, s5, s2⟩, s7 h13⟩, s3⟩)
    clear s1 s2 s3 s4 s5 s6 s7 hv hd hu h13 h16 HN HBN
    unfold dblA
    go_end0
    exact ⟨rfl, HP.out⟩
set_option maxHeartbeats 4000000 in
set_option maxRecDepth 100000 in
theorem double_nil (i : Int) (w : World) : Calls Try.prog 71 #[.pointer none, .int .i64 i] w fun e w' => e = .returned (.bool false) ∧ Below w.heap.size w w' := by
  have HB := hide ((Below.refl w.heap.size w).alloc (Nat.le_refl _) (.cells #[.pointer none] 107))
  go_enter Try.func71, Try.ntmps71
  go_wp2_with fail
  refine (waiting_nil _).mono ?_
  rintro e w1 ⟨rfl, rfl⟩
  go_wp2_with fail
  refine (pick_138_nil _ i _).mono ?_
  rintro e w1 ⟨rfl, rfl⟩
  go_wp2
  go_ret
  exact ⟨rfl, HB.out⟩
set_option maxHeartbeats 4000000 in
set_option maxRecDepth 100000 in
theorem double_off {w : World} {g c : Nat} {v : Value} {N : NetS} (hN : NT w g v c N) (h0 : N.way.length = 0) (i : Int) : Calls Try.prog 71 #[.pointer (some ⟨g, 0, none⟩), .int .i64 i] w fun e w' => e = .returned (.bool false) ∧ Below w.heap.size w w' := by
  have hb := (Below.refl w.heap.size w).alloc (Nat.le_refl _) (.cells #[.pointer (some ⟨g, 0, none⟩)] 107)
  have HP := hide (pick_138_off (hN.below hb) h0 i (.pointer (some ⟨w.heap.size, 0, none⟩)))
  have HW := hide (waiting_any (hN.below hb))
  rw [h0] at HW
  have HB := hide hb
  clear hN hb h0
  go_enter Try.func71, Try.ntmps71
  go_wp2_with fail
  refine HW.out.mono ?_
  rintro e w1 ⟨rfl, rfl⟩
  go_wp2_with fail
  refine HP.out.mono ?_
  rintro e w1 ⟨rfl, rfl⟩
  go_wp2
  go_ret
  exact ⟨rfl, HB.out⟩
set_option maxHeartbeats 4000000 in
set_option maxRecDepth 100000 in
theorem double_full {w : World} {g c : Nat} {v : Value} {N : NetS} (hN : NT w g v c N) (h0 : 1024 ≤ N.way.length) (hl : N.way.length ≤ 1048576) (i : Int) : Calls Try.prog 71 #[.pointer (some ⟨g, 0, none⟩), .int .i64 i] w fun e w' => e = .returned (.bool false) ∧ Below w.heap.size w w' := by
  have hb := (Below.refl w.heap.size w).alloc (Nat.le_refl _) (.cells #[.pointer (some ⟨g, 0, none⟩)] 107)
  have HW := hide (waiting_any (hN.below hb))
  obtain ⟨n, hn⟩ : ∃ n, n = N.way.length := ⟨_, rfl⟩
  rw [← hn] at HW h0 hl
  have HB := hide hb
  have h1 : ¬ (n : Int) < 1024 := by omega
  clear hN hb hn h0
  go_enter Try.func71, Try.ntmps71
  go_wp2_with fail
  refine HW.out.mono ?_
  rintro e w1 ⟨rfl, rfl⟩
  go_wp2
  go_ret
  exact ⟨rfl, HB.out⟩
set_option maxHeartbeats 4000000 in
set_option maxRecDepth 100000 in
theorem double_any {w : World} {g c r cap : Nat} {N : NetS} (hN : NT w g (.slice (some ⟨r, 0, none⟩) N.way.length cap) c N) (h0 : 0 < N.way.length) (h1 : N.way.length < 1024) (i : Int) : Calls Try.prog 71 #[.pointer (some ⟨g, 0, none⟩), .int .i64 i] w fun e w' =>
    e = .returned (.bool true) ∧ (∃ v', NT w' g v' c (dblN N (atI i N.way.length) (atI_lt i h0)) ∧ ∀ k, v'.ownBlock = some k → k = r ∨ w.heap.size ≤ k) ∧ Fr (fun j => j = g ∨ j = r) w w' := by
  have hb := (Below.refl w.heap.size w).alloc (Nat.le_refl _) (.cells #[.pointer (some ⟨g, 0, none⟩)] 107)
  have hN2 := hN.below hb
  have HP := hide (pick_138 hN2 h0 (by omega) i _ (dbl1_any hN2 (obj_new _ _) (atI_lt i h0) (by omega)))
  have HW := hide (waiting_any hN2)
  have HB := hide hb
  have hg := obj_lt hN.1
  have hr := row_lt hN.2.1 (k := r) rfl
  obtain ⟨n, hn⟩ : ∃ n, n = N.way.length := ⟨_, rfl⟩
  rw [← hn] at HW h1
  have h1' : (n : Int) < 1024 := by omega
  clear hN hN2 hb hn h1
  go_enter Try.func71, Try.ntmps71
  go_wp2_with fail
  refine HW.out.mono ?_
  rintro e w1 ⟨rfl, rfl⟩
  go_wp2_with fail
  refine HP.out.mono ?_
  rintro e w1 ⟨rfl, h1, h2⟩
  obtain ⟨v', h1, h3⟩ := h1
  have HR := hide (show ∃ v', NT _ g v' c (dblN N (atI i N.way.length) (atI_lt i h0)) ∧ ∀ k, v'.ownBlock = some k → k = r ∨ w.heap.size ≤ k from ⟨v', h1, fun k e => by have := h3 k e; simp only [World.size_alloc] at this; omega⟩)
  have HF := hide ((Fr.of_below (F := fun j => j = g ∨ j = r) HB.out).trans h2 (fun i hi e => e))
  clear h1 h2 h3 HP HW
  go_wp2
  go_ret
  exact ⟨rfl, HR.out, HF.out⟩
end Go.Proofs.Ytljmaicobafgkaa
end
section
/- Layer 12: a message there and back, plain; the walk of the example. -/
namespace Go.Proofs.Ytljmaicobafgkaa
open Go.RowKit

theorem le4_length (n : Int) : (le4 n).length = 4 := rfl
theorem openL_seal (l : List UInt8) : openL (l ++ le4 (crc l)) = some l := by
  have e : (l ++ le4 (crc l)).length - 4 = l.length := by rw [List.length_append, le4_length]; omega
  unfold openL
  rw [e]
  simp
theorem sealS_list (s : ByteArray) : (sealS s).data.toList = s.data.toList ++ le4 (crc s.data.toList) := by
  unfold sealS
  simp
theorem frB_eq (kd fr tt id : Int) (b : List UInt8) : frB kd fr tt id b = ub kd :: ub fr :: ub tt :: (num id ++ textB b) := by
  simp [frB, frPre]
theorem dec_parts (kd fr tt id : Int) (b : List UInt8) (hm : msgOk kd fr tt id) (hb : b.length ≤ 4096) :
    d5 (frB kd fr tt id b) = some [] ∧ dK (frB kd fr tt id b) = kd ∧ dF (frB kd fr tt id b) = fr ∧ dT (frB kd fr tt id b) = tt ∧ dI (frB kd fr tt id b) = id ∧ dB (frB kd fr tt id b) = b := by
  obtain ⟨hk0, hk1, hf0, hf1, ht0, ht1, hi0, hi1⟩ := hm
  have e1 : d1 (frB kd fr tt id b) = some (ub fr :: ub tt :: (num id ++ textB b)) := by rw [frB_eq]; rfl
  have e2 : d2 (frB kd fr tt id b) = some (ub tt :: (num id ++ textB b)) := by unfold d2; rw [e1]; rfl
  have e3 : d3 (frB kd fr tt id b) = some (num id ++ textB b) := by unfold d3; rw [e2]; rfl
  have ri := rInt_num id (textB b) (by omega) (by omega)
  have e4 : d4 (frB kd fr tt id b) = some (textB b) := by unfold d4; rw [e3, ri]
  have rt : rText (some (textB b)) = (b, some []) := by
    have := rText_text b [] (by omega)
    simpa using this
  refine ⟨by unfold d5; rw [e4, rt], ?_, ?_, ?_, ?_, ?_⟩
  · unfold dK
    rw [frB_eq]
    exact ub_small (by omega) (by omega)
  · unfold dF
    rw [e1]
    exact ub_small hf0 (by omega)
  · unfold dT
    rw [e2]
    exact ub_small ht0 (by omega)
  · unfold dI
    rw [e3, ri]
  · unfold dB
    rw [e4, rt]
theorem dec_enc (kd fr tt id : Int) (b : List UInt8) (hm : msgOk kd fr tt id) (hb : b.length ≤ 4096) :
    decV (sealS ⟨(frB kd fr tt id b).toArray⟩).data.toList = .tuple #[.agg #[.int .i64 kd, .int .i64 fr, .int .i64 tt, .int .i64 id, .string ⟨b.toArray⟩], .int .i64 0] := by
  obtain ⟨h5, h1, h2, h3, h4, h6⟩ := dec_parts kd fr tt id b hm hb
  have ho : openL (sealS ⟨(frB kd fr tt id b).toArray⟩).data.toList = some (frB kd fr tt id b) := by
    rw [sealS_list]
    exact openL_seal _
  unfold decV
  rw [ho]
  show decR (frB kd fr tt id b) = _
  have hok : dOk (frB kd fr tt id b) := by
    refine ⟨h5, ?_⟩
    rw [h1, h2, h3, h4, h6]
    unfold chk
    rw [if_pos hm, if_neg (by omega)]
  rw [decR_ok hok]
  simp only [dCells, h1, h2, h3, h4, h6]
theorem sealS_size (s : ByteArray) : (sealS s).size = s.size + 4 := by
  rw [size_list, sealS_list, List.length_append, le4_length, size_list]
theorem frB_len (kd fr tt id : Int) (b : List UInt8) (hi : 0 ≤ id ∧ id < 9223372036854775807) (hb : b.length ≤ 4096) : (frB kd fr tt id b).length ≤ 4200 := by
  have h1 := num_ten id hi
  have h2 := num_ten (b.length : Int) (by omega)
  rw [frB_eq]
  simp [textB]
  omega
theorem num0 : num 0 = [0] := by
  unfold num zz
  rw [numN_small (by decide)]
  decide
theorem ex_one : sealS ⟨(frB 1 0 0 0 []).toArray⟩ = ⟨#[1, 0, 0, 0, 0] ++ (le4 (crc [1, 0, 0, 0, 0])).toArray⟩ := by
  have : frB 1 0 0 0 [] = [1, 0, 0, 0, 0] := by
    rw [frB_eq]
    simp only [textB, List.length_nil, Int.cast_ofNat_Int, num0]
    decide
  rw [this]
  rw [← str_eta (sealS _), sealS_list]
  simp
set_option maxHeartbeats 2000000 in
set_option maxRecDepth 100000 in
theorem awake12 : Awake12 := by
  intro w
  have hs1 : (sealS ⟨(frB 1 0 0 0 []).toArray⟩).size = 9 := by rw [ex_one]; rfl
  have hx1 : (sealS ⟨(frB 1 0 0 0 []).toArray⟩).extract 0 5 = ⟨#[1, 0, 0, 0, 0]⟩ := by
    rw [extract_str, ex_one]
    rfl
  obtain ⟨s1, hs⟩ : ∃ s1, s1 = sealS ⟨(frB 1 0 0 0 []).toArray⟩ := ⟨_, rfl⟩
  rw [← hs] at hs1 hx1
  obtain ⟨s2, hq⟩ : ∃ s2, s2 = sealS ⟨(frB 99 63 1 300 [97, 98]).toArray⟩ := ⟨_, rfl⟩
  have hd2 : decV s2.data.toList = .tuple #[.agg #[.int .i64 99, .int .i64 63, .int .i64 1, .int .i64 300, .string ⟨#[97, 98]⟩], .int .i64 0] := by
    rw [hq]
    exact dec_enc 99 63 1 300 [97, 98] (by decide) (by decide)
  have hz2 : 4 ≤ s2.size ∧ s2.size ≤ 10000 := by
    rw [hq, sealS_size, str_size]
    have := frB_len 99 63 1 300 [97, 98] (by decide) (by decide)
    omega
  have hd3 : decV [97, 98, 99, 100] = .tuple #[.agg #[.int .i64 0, .int .i64 0, .int .i64 0, .int .i64 0, .string ⟨#[]⟩], .int .i64 4] := by
    have : openL [97, 98, 99, 100] = none := by decide +kernel
    unfold decV
    rw [this]
    rfl
  have hS := hide hs
  have hQ := hide hq
  have HS1 := hide hs1
  have HD2 := hide hd2
  have HD3 := hide hd3
  clear hs hq hd2 hd3
  go_enter Try.func48, Try.ntmps48
  go_wp2_with fail
  refine (encode_ok 1 0 0 0 ⟨#[]⟩ _ (by decide) (by decide)).mono ?_
  rintro e w1 ⟨rfl, hb1⟩
  rw [show sealS ⟨(frB 1 0 0 0 (⟨#[]⟩ : ByteArray).data.toList).toArray⟩ = s1 from hS.out.symm]
  have HB1 := hide hb1
  clear hb1
  go_wp2_with fail
  refine (encode_ok 99 63 1 300 ⟨#[97, 98]⟩ _ (by decide) (by decide)).mono ?_
  rintro e w2 ⟨rfl, hb2⟩
  rw [show sealS ⟨(frB 99 63 1 300 (⟨#[97, 98]⟩ : ByteArray).data.toList).toArray⟩ = s2 from hQ.out.symm]
  have HM2 := hide (obj_below (obj_new w1 (.cells #[.int .i64 99, .int .i64 63, .int .i64 1, .int .i64 300, .string ⟨#[97, 98]⟩] 63)) hb2)
  have HB2 := hide ((HB1.out.alloc HB1.out.size (.cells #[.int .i64 99, .int .i64 63, .int .i64 1, .int .i64 300, .string ⟨#[97, 98]⟩] 63)).trans (hb2.mono (by simp; have := HB1.out.size; omega)))
  clear hb2
  go_wp2_with fail
  refine (decode_any s2 _ hz2.1 (by omega)).mono ?_
  rintro e w3 ⟨rfl, hb3⟩
  rw [HD2.out]
  have HM3 := hide (obj_below HM2.out hb3)
  have HB3 := hide (HB2.out.trans (hb3.mono HB2.out.size))
  clear hb3
  go_wp2_with fail
  refine (decode_any ⟨#[97, 98, 99, 100]⟩ _ (by decide) (by decide)).mono ?_
  rintro e w4 ⟨rfl, hb4⟩
  rw [show decV (⟨#[97, 98, 99, 100]⟩ : ByteArray).data.toList = .tuple #[.agg #[.int .i64 0, .int .i64 0, .int .i64 0, .int .i64 0, .string ⟨#[]⟩], .int .i64 4] from HD3.out]
  have hm4 := obj_below (obj_alloc HM3.out (.cells #[.int .i64 99, .int .i64 63, .int .i64 1, .int .i64 300, .string ⟨#[97, 98]⟩] 63)) hb4
  have hn4 := obj_below (obj_new w3 (.cells #[.int .i64 99, .int .i64 63, .int .i64 1, .int .i64 300, .string ⟨#[97, 98]⟩] 63)) hb4
  have m0 := obj_cell hm4 0
  have m1 := obj_cell hm4 1
  have m2 := obj_cell hm4 2
  have m3 := obj_cell hm4 3
  have m4 := obj_cell hm4 4
  have n0 := obj_cell hn4 0
  have n1 := obj_cell hn4 1
  have n2 := obj_cell hn4 2
  have n3 := obj_cell hn4 3
  have n4 := obj_cell hn4 4
  simp only [List.getElem?_toArray, List.getElem?_cons_zero, List.getElem?_cons_succ] at m0 m1 m2 m3 m4 n0 n1 n2 n3 n4
  have l1 := obj_lt hm4
  have l2 := obj_lt hn4
  have HB4 := hide ((HB3.out.alloc HB3.out.size (.cells #[.int .i64 99, .int .i64 63, .int .i64 1, .int .i64 300, .string ⟨#[97, 98]⟩] 63)).trans (hb4.mono (by simp; have := HB3.out.size; omega)))
  clear hb4 hm4 hn4
  go_wp2_with fail
  refine (check_any 0 0 0 0 ⟨#[]⟩ _ (by decide)).mono ?_
  rintro e w5 ⟨rfl, hb5⟩
  rw [show chk 0 0 0 0 (⟨#[]⟩ : ByteArray).size = 1 from by decide]
  go_wp2
  go_ret
  exact ⟨rfl, (HB4.out.alloc HB4.out.size _).trans (hb5.mono (by simp; have := HB4.out.size; omega))⟩
end Go.Proofs.Ytljmaicobafgkaa
end
