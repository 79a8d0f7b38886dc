/- A join of 3 texts of this claim: Ord3, Ref3b, Frames. Conditions: none of their own. -/
import Derived.Test.YtljmaicobafgkaaQ1
import Derived.Test.YtljmaicobafgkaaQ4
import Derived.Test.YtljmaicobafgkaaQ2
import Derived.Test.YtljmaicobafgkaaQ3
section
/- A region that draws its order and ends in one operation that waits for all others (a store, mostly). -/
namespace Go.Proofs.Ytljmaicobafgkaa
open Go.RowKit

section
variable {P : Program} {ops : Array Oper} {Q : Exit → Act → World → Prop}

/-- Each operation but the last one is waited for by a later one. -/
def lastB (ops : Array Oper) : Bool := (List.range (ops.size - 1)).all fun j => (List.range ops.size).any fun k => decide (j < k) && match ops[k]? with | some o => o.after.any fun e => Region.binds .any e && e.on == j | none => false
theorem lastB_spec (h : lastB ops = true) {j : Nat} (hj : j + 1 < ops.size) : ∃ k o, j < k ∧ ops[k]? = some o ∧ ∃ e ∈ o.after, Region.binds .any e = true ∧ e.on = j := by
  have h1 := List.all_eq_true.1 h j (List.mem_range.2 (by omega))
  obtain ⟨k, _, hk⟩ := List.any_eq_true.1 h1
  simp only [Bool.and_eq_true, decide_eq_true_eq] at hk
  rcases ho : ops[k]? with _ | o
  · rw [ho] at hk
    cases hk.2
  · rw [ho] at hk
    obtain ⟨e, he, hb⟩ := Array.any_eq_true'.1 hk.2
    simp only [Bool.and_eq_true, beq_iff_eq] at hb
    exact ⟨k, o, hk.1, ho, e, he, hb.1, hb.2⟩
/-- What has come up is closed under what it waits for. -/
def Closed (ops : Array Oper) (l : Array Bool) : Prop := ∀ (j : Nat) (o : Oper), ops[j]? = some o → l.getD j false = true → ∀ e ∈ o.after, Region.binds .any e = true → l.getD e.on false = true
theorem all_before (h : lastB ops = true) {l : Array Bool} (hc : Closed ops l) {o : Oper} (ho : ops[ops.size - 1]? = some o) (hd : ∀ e ∈ o.after, Region.binds .any e = true → l.getD e.on false = true) :
    ∀ (n j : Nat), ops.size - j ≤ n → j + 1 < ops.size → l.getD j false = true
  | 0, j, hn, hj => by omega
  | n + 1, j, hn, hj => by
    obtain ⟨k, ok, hjk, hok, e, he, hb, rfl⟩ := lastB_spec h hj
    have hks : k < ops.size := (Array.getElem?_eq_some_iff.1 hok).1
    rcases Nat.lt_or_ge (k + 1) ops.size with h1 | h1
    · exact hc k ok hok (all_before h hc ho hd n k (by omega) h1) e he hb
    · have : k = ops.size - 1 := by omega
      subst this
      rw [ho] at hok
      cases hok
      exact hd e he hb

/-- What is asked of each operation, one by one: S anew, its own value, and the others' values as they were. -/
def StepsG (P : Program) (ops : Array Oper) (Q : Exit → Act → World → Prop) (A : (Nat → Value) → Act) (x0 : Nat → Value) (S : (Nat → Value) → World → Prop) (V : Nat → Value → World → Prop) : List Oper → Nat → Prop
  | [], _ => True
  | o :: l, i => (∀ x w, S x w → x i = x0 i → (∀ e ∈ o.after.toList.filter (Region.binds .any), V e.on (x e.on) w) → ∀ K : Act → World → Prop,
      (∀ v w', S (fun j => if j = i then v else x j) w' → V i v w' → (∀ j u, j ≠ i → V j u w → V j u w') → K ((A x).put o.dst v) w') → Region.wanted o (yielded ops (A x).tmps) = true ∧ Oper.wp P o (A x) w K Q) ∧ StepsG P ops Q A x0 S V l (i + 1)
theorem StepsG.get {A : (Nat → Value) → Act} {x0 : Nat → Value} {S : (Nat → Value) → World → Prop} {V : Nat → Value → World → Prop} : ∀ (l : List Oper) (k : Nat), StepsG P ops Q A x0 S V l k → ∀ (i : Nat) (o : Oper), l[i]? = some o →
    ∀ x w, S x w → x (k + i) = x0 (k + i) → (∀ e ∈ o.after.toList.filter (Region.binds .any), V e.on (x e.on) w) → ∀ K : Act → World → Prop,
      (∀ v w', S (fun j => if j = k + i then v else x j) w' → V (k + i) v w' → (∀ j u, j ≠ k + i → V j u w → V j u w') → K ((A x).put o.dst v) w') → Region.wanted o (yielded ops (A x).tmps) = true ∧ Oper.wp P o (A x) w K Q
  | [], _, _, _, _, h => by simp at h
  | _ :: _, _, hs, 0, _, h => by
    simp only [List.getElem?_cons_zero, Option.some.injEq] at h
    subst h
    exact hs.1
  | _ :: l, k, hs, i + 1, o, h => by
    have := StepsG.get l (k + 1) hs.2 i o (by simpa using h)
    rw [show k + 1 + i = k + (i + 1) from by omega] at this
    exact this

theorem wp_region_end {id : Nat} (A : (Nat → Value) → Act) (x0 : Nat → Value) (S : (Nat → Value) → World → Prop) (V : Nat → Value → World → Prop) {a : Act} {w : World} (last : Oper) (l : List Oper)
    (hops : ops.toList = l ++ [last]) (hm : P.follows .mixedOrders = true) (hord : orderedB ops = true) (hlast : lastB ops = true) (ha : a = A x0) (h0 : S x0 w.drew)
    (hput : Puts A l 0) (hstep : StepsG P ops Q A x0 S V l 0)
    (hfin : ∀ x w', S x w' → (∀ i, i < l.length → V i (x i) w') → ∀ K : Act → World → Prop, (∀ a' w'', Q .normal a' w'' → K a' w'') → Region.wanted last (yielded ops (A x).tmps) = true ∧ Oper.wp P last (A x) w' K Q) :
    (Code.region id ops true).wp P Q a w := by
  subst ha
  have hsz : ops.size = l.length + 1 := by rw [← Array.length_toList, hops]; simp
  have hl1 : ops[ops.size - 1]? = some last := by
    rw [← Array.getElem?_toList, hops, hsz]
    simp
  refine wp_region_any hm (wpAny_inv (fun li a w => Closed ops li ∧ ((li.getD l.length false = false ∧ ∃ x, a = A x ∧ S x w ∧ (∀ i, i < l.length → li.getD i false = true → V i (x i) w) ∧ ∀ i, i < l.length → li.getD i false = false → x i = x0 i) ∨ (li.getD l.length false = true ∧ Q .normal a w))) hord ?_ ?_ _ _ _ _ (by simp) ?_ ⟨?_, .inl ⟨?_, x0, rfl, h0, ?_, fun _ _ _ => rfl⟩⟩)
  · rintro li a w _ ⟨_, h | h⟩ hall
    · have := hall l.length (by omega)
      rw [h.1] at this
      cases this
    · exact h.2
  · rintro i o ho li a w ⟨hcl, h⟩ h0 hdep K hK
    have hi2 : i < ops.size := (Array.getElem?_eq_some_iff.1 ho).1
    have hcl' : Closed ops (li.setIfInBounds i true) := fun j oj hoj hj e he hb => by
      by_cases hji : j = i
      · subst hji
        rw [ho] at hoj
        cases hoj
        exact getD_set_true (hdep e he hb)
      · rw [getD_set_ne false (Ne.symm hji)] at hj
        exact getD_set_true (hcl j oj hoj hj e he hb)
    have hil : i < li.size := by
      rcases Nat.lt_or_ge i li.size with h' | h'
      · exact h'
      · simp [Array.getElem?_eq_none h'] at h0
    rcases h with ⟨hlf, x, rfl, hs, hv, hu⟩ | ⟨hlt, hq⟩
    · by_cases hil1 : i = l.length
      · subst hil1
        have hol : o = last := by
          rw [hsz, Nat.add_sub_cancel] at hl1
          rw [hl1] at ho
          cases ho
          rfl
        subst hol
        have hall := all_before hlast hcl hl1 hdep
        have hg := hfin x w hs (fun j hj => hv j hj (hall ops.size j (by omega) (by omega))) K (fun a' w'' hq => hK _ _ ⟨hcl', .inr ⟨by simp [hil], hq⟩⟩)
        rw [if_pos hg.1]
        exact hg.2
      · have hil2 : i < l.length := by omega
        have hlo : l[i]? = some o := by
          have : ops.toList[i]? = some o := by rw [Array.getElem?_toList]; exact ho
          rw [hops, List.getElem?_append_left hil2] at this
          exact this
        have hg : Region.wanted o (yielded ops (A x).tmps) = true ∧ Oper.wp P o (A x) w K Q := by
          refine StepsG.get l 0 hstep i o hlo x w hs (by rw [Nat.zero_add]; exact hu i hil2 (by simpa [Array.getElem?_eq_getElem hil] using h0)) (fun e he => ?_) K fun v w' hs' hv' hst => hK _ _ ⟨hcl', .inl ⟨?_, fun j => if j = 0 + i then v else x j, Puts.get l 0 hput i o hlo x v, hs', fun j hjl hj => ?_, fun j hjl hj => ?_⟩⟩
          · rw [List.mem_filter] at he
            have hin := orderedB_spec hord ho e (by simpa using he.1) he.2
            exact hv e.on (by omega) (hdep e (by simpa using he.1) he.2)
          · rw [getD_set_ne false hil1]
            exact hlf
          · by_cases hji : j = i
            · subst hji
              show V j (if j = 0 + j then v else x j) w'
              rw [Nat.zero_add, if_pos rfl]
              rw [Nat.zero_add] at hv'
              exact hv'
            · show V j (if j = 0 + i then v else x j) w'
              rw [Nat.zero_add, if_neg hji]
              rw [getD_set_ne false (Ne.symm hji)] at hj
              exact hst j _ (by omega) (hv j hjl hj)
          · show (if j = 0 + i then v else x j) = x0 j
            by_cases hji : j = i
            · subst hji
              simp [hil] at hj
            · rw [Nat.zero_add, if_neg hji]
              rw [getD_set_ne false (Ne.symm hji)] at hj
              exact hu j hjl hj
        rw [if_pos hg.1]
        exact hg.2
    · exfalso
      have hd2 : ∀ e ∈ last.after, Region.binds .any e = true → li.getD e.on false = true := fun e he hb => by
        rw [hsz, Nat.add_sub_cancel] at hl1
        exact hcl _ last hl1 hlt e he hb
      have hall := all_before hlast hcl hl1 hd2
      have hi3 : li.getD i false = true := by
        rcases Nat.lt_or_ge (i + 1) ops.size with h1 | h1
        · exact hall ops.size i (by omega) h1
        · have : i = l.length := by omega
          rw [this]
          exact hlt
      have : li[i] = false := by simpa [Array.getElem?_eq_getElem hil] using h0
      simp [Array.getElem?_eq_getElem hil, this] at hi3
  · simp
  · intro j o _ hj
    exfalso
    simp [Array.getElem?_replicate] at hj
    split at hj <;> simp at hj
  · simp [Array.getElem?_replicate]
    split <;> rfl
  · intro i _ hi
    exfalso
    simp [Array.getElem?_replicate] at hi
    split at hi <;> simp at hi
theorem wp_region_fin {id : Nat} (A : (Nat → Value) → Act) (x0 : Nat → Value) (S : (Nat → Value) → World → Prop) (V : Nat → Value → World → Prop) {a : Act} {w : World} (last : Oper)
    (hops : ops.toList.getLast? = some last) (hm : P.follows .mixedOrders = true) (hord : orderedB ops = true) (hlast : lastB ops = true) (ha : a = A x0) (h0 : S x0 w.drew)
    (hput : Puts A ops.toList.dropLast 0) (hstep : StepsG P ops Q A x0 S V ops.toList.dropLast 0)
    (hfin : ∀ x w', S x w' → (∀ i, i + 1 < ops.size → V i (x i) w') → ∀ K : Act → World → Prop, (∀ a' w'', Q .normal a' w'' → K a' w'') → Region.wanted last (yielded ops (A x).tmps) = true ∧ Oper.wp P last (A x) w' K Q) :
    (Code.region id ops true).wp P Q a w :=
  wp_region_end A x0 S V last ops.toList.dropLast (by
    have hne : ops.toList ≠ [] := fun h => by rw [h] at hops; cases hops
    rw [List.getLast?_eq_some_getLast hne] at hops
    cases hops
    exact (List.dropLast_concat_getLast hne).symm) hm hord hlast ha h0 hput hstep
    (fun x w' hS hv => hfin x w' hS (fun i hi => hv i (by simpa using (by omega : i < ops.size - 1))))
end
end Go.Proofs.Ytljmaicobafgkaa
end
section
/- The walks of the references' takers. -/
namespace Go.Proofs.Ytljmaicobafgkaa
open Go.RowKit

theorem takeInt_none (w : World) :
    Calls Try.prog 114 #[.agg #[.string ⟨#[]⟩, .bool true]] w fun e w' => e = .returned (.tuple #[.agg (rdrCells none), .int .i64 0]) ∧ Below w.heap.size w w' := by
  go_enter Try.func114, Try.ntmps114
  go_wp2
  go_loop [4, 5, 6, 7] (fun q i _ _ => ∃ k : Nat, i = .int .i64 k) (fun _ i _ _ => 10 - (intOf i).toNat)
  case atStart => exact ⟨0, rfl⟩
  case round =>
    obtain ⟨k, rfl⟩ := hrel
    go_wp2_with fail
    refine (bad_any _ _ _).mono ?_
    rintro e w2 ⟨rfl, hb2⟩
    have hbw : Below w.heap.size w ((w.alloc (.cells #[.string ⟨#[]⟩, .bool true] 184)).alloc (.cells #[.string ⟨#[]⟩, .bool false] 184)) := ((Below.refl _ _).alloc (Nat.le_refl _) _).alloc (by simp) _
    have hz := obj_below (obj_new2 w (.cells #[.string ⟨#[]⟩, .bool true] 184) (.cells #[.string ⟨#[]⟩, .bool false] 184)) hb2
    have z0 := obj_cell hz 0
    have z1 := obj_cell hz 1
    have f0 := obj_frozen hz 0
    have f1 := obj_frozen hz 1
    simp only [List.getElem?_toArray, List.getElem?_cons_zero, List.getElem?_cons_succ] at z0 z1
    have HZ := hide hz
    have HB2 := hide (hbw.trans (hb2.mono (by simp; omega)))
    clear hz hb2 hbw
    unfold rdrCells
    go_wp2
    refine bodyPost_ret (res_ct rfl _ _ (w.heap.size + 1) 184 (rdrCells none) _ _ rfl (set_two _ _ _ _ _ _ HZ.out) Try.underlying184 rfl (by kernel_rfl)) rfl ⟨rfl, ?_⟩
    exact (HB2.out.setCell (p := ⟨w.heap.size + 1, 0, none⟩) (by simp) _).setCell (p := ⟨w.heap.size + 1, 1, none⟩) (by simp) _
theorem r3TakeInt_any (σ : Option (List UInt8)) (w : World) (hl : ∀ l, σ = some l → l.length ≤ 1073741824) :
    Calls Try.prog 114 #[.agg (rdrCells σ)] w fun e w' => e = .returned (.tuple #[.agg (rdrCells (rInt σ).2), .int .i64 (rInt σ).1]) ∧ Below w.heap.size w w' := by
  rcases σ with _ | l
  · exact takeInt_none w
  · exact takeInt_any3 l w (hl l rfl)
set_option maxRecDepth 100000 in
theorem r3TakeByte_any (σ : Option (List UInt8)) (w : World) :
    Calls Try.prog 122 #[.agg (rdrCells σ)] w fun e w' => e = .returned (.tuple #[.agg (rdrCells (rByte σ).2), .int .i64 (rByte σ).1]) ∧ Below w.heap.size w w' := by
  rcases σ with _ | l
  · unfold rdrCells rByte
    go_enter Try.func122, Try.ntmps122
    go_wp2_with fail
    refine (bad_any _ _ _).mono ?_
    rintro e w2 ⟨rfl, hb2⟩
    have hbw : Below w.heap.size w ((w.alloc (.cells #[.string ⟨#[]⟩, .bool true] 184)).alloc (.cells #[.string ⟨#[]⟩, .bool false] 184)) := ((Below.refl _ _).alloc (Nat.le_refl _) _).alloc (by simp) _
    have hz := obj_below (obj_new2 w (.cells #[.string ⟨#[]⟩, .bool true] 184) (.cells #[.string ⟨#[]⟩, .bool false] 184)) hb2
    have z0 := obj_cell hz 0
    have z1 := obj_cell hz 1
    have f0 := obj_frozen hz 0
    have f1 := obj_frozen hz 1
    simp only [List.getElem?_toArray, List.getElem?_cons_zero, List.getElem?_cons_succ] at z0 z1
    have HZ := hide hz
    have HB2 := hide (hbw.trans (hb2.mono (by simp; omega)))
    clear hz hb2 hbw
    unfold rdrCells
    go_wp2
    refine bodyPost_ret (res_ct rfl _ _ (w.heap.size + 1) 184 (rdrCells none) _ _ rfl (set_two _ _ _ _ _ _ HZ.out) Try.underlying184 rfl (by kernel_rfl)) rfl ⟨rfl, ?_⟩
    exact (HB2.out.setCell (p := ⟨w.heap.size + 1, 0, none⟩) (by simp) _).setCell (p := ⟨w.heap.size + 1, 1, none⟩) (by simp) _
  · rcases l with _ | ⟨b, r⟩
    · unfold rdrCells rByte
      go_enter Try.func122, Try.ntmps122
      go_wp2_with fail
      refine (bad_any _ _ _).mono ?_
      rintro e w2 ⟨rfl, hb2⟩
      have hbw : Below w.heap.size w ((w.alloc (.cells #[.string ⟨#[]⟩, .bool false] 184)).alloc (.cells #[.string ⟨#[]⟩, .bool false] 184)) := ((Below.refl _ _).alloc (Nat.le_refl _) _).alloc (by simp) _
      have hz := obj_below (obj_new2 w (.cells #[.string ⟨#[]⟩, .bool false] 184) (.cells #[.string ⟨#[]⟩, .bool false] 184)) hb2
      have z0 := obj_cell hz 0
      have z1 := obj_cell hz 1
      have f0 := obj_frozen hz 0
      have f1 := obj_frozen hz 1
      simp only [List.getElem?_toArray, List.getElem?_cons_zero, List.getElem?_cons_succ] at z0 z1
      have HZ := hide hz
      have HB2 := hide (hbw.trans (hb2.mono (by simp; omega)))
      clear hz hb2 hbw
      unfold rdrCells
      go_wp2
      refine bodyPost_ret (res_ct rfl _ _ (w.heap.size + 1) 184 (rdrCells none) _ _ rfl (set_two _ _ _ _ _ _ HZ.out) Try.underlying184 rfl (by kernel_rfl)) rfl ⟨rfl, ?_⟩
      exact (HB2.out.setCell (p := ⟨w.heap.size + 1, 0, none⟩) (by simp) _).setCell (p := ⟨w.heap.size + 1, 1, none⟩) (by simp) _
    · obtain ⟨s, hs⟩ : ∃ s : ByteArray, s = ⟨(b :: r).toArray⟩ := ⟨_, rfl⟩
      have hz : 1 ≤ s.size := by rw [hs, str_size]; simp
      have hx : s.extract 1 s.size = ⟨r.toArray⟩ := by
        rw [hs]
        exact ext_drop (b :: r) 1
      have hi : ∀ h : 0 < s.size, s[0]'h = b := by subst hs; intro h; rfl
      have h0 : 0 < s.size := by omega
      have hz1 : (1 : Int) ≤ (s.size : Int) := by omega
      have hz2 : (0 : Int) < (s.size : Int) := by omega
      have hsl : ∀ w1 : World, (Instr.slice 9 (.string s) (some (.int .i64 1)) none none).run Try.prog w1 = .ok (.string ⟨r.toArray⟩) w1 := fun w1 => by
        rw [← hx]
        have e : ¬ ((s.size : Int) < 1) := by omega
        subst hs
        go_simp
        intro h
        omega
      have hne : s.toList.isEmpty = false := by rw [Lib.toList_data, hs]; rfl
      have hb := b.toNat_lt
      unfold rdrCells rByte
      simp only
      rw [← hs]
      clear hs
      go_enter Try.func122, Try.ntmps122
      go_wp2
      go_region
      go_wp2
      refine bodyPost_ret (res_ct rfl _ _ (w.heap.size + 1) 184 (rdrCells (some r)) _ _ rfl (obj_new2 _ _ _) Try.underlying184 rfl (by kernel_rfl)) rfl ⟨rfl, ?_⟩
      exact (((Below.refl _ _).alloc (Nat.le_refl _) _).alloc (by simp) _).drew

set_option maxHeartbeats 2000000 in
set_option maxRecDepth 100000 in
theorem r3TakeText_any (σ : Option (List UInt8)) (w : World) (hl : ∀ l, σ = some l → l.length ≤ 1073741824) :
    Calls Try.prog 123 #[.agg (rdrCells σ)] w fun e w' => e = .returned (.tuple #[.agg (rdrCells (rText σ).2), .string ⟨(rText σ).1.toArray⟩]) ∧ Below w.heap.size w w' := by
  have HL := hide hl
  clear hl
  obtain ⟨sv, bv, hσ⟩ : ∃ sv bv, rdrCells σ = #[sv, bv] := by cases σ <;> exact ⟨_, _, rfl⟩
  by_cases hok : ∃ r, (rInt σ).2 = some r ∧ 0 ≤ (rInt σ).1 ∧ (rInt σ).1 ≤ (r.length : Int)
  · obtain ⟨r, h2, h0, h1⟩ := hok
    have hrl : r.length ≤ 1073741824 := rInt_len h2 HL.out
    obtain ⟨n, hn⟩ : ∃ n : Nat, (rInt σ).1 = n := ⟨(rInt σ).1.toNat, by omega⟩
    have ht : rText σ = (r.take n, some (r.drop n)) := by
      unfold rText
      rw [h2]
      simp only [hn]
      rw [if_pos (by omega)]
      rfl
    have hcall := r3TakeInt_any σ
    rw [h2, hn] at hcall
    have HC := hide hcall
    rw [ht]
    rw [hn] at h1
    have h1' : n ≤ r.length := by omega
    have HS := hide hσ
    rw [hσ]
    clear ht hcall h2 hn h0 hσ
    have hz : (⟨r.toArray⟩ : ByteArray).size = r.length := rfl
    have hx := ext_take r n
    have hy := ext_drop r n
    go_enter Try.func123, Try.ntmps123
    go_wp2_with fail
    rw [← HS.out]
    refine (HC.out _ HL.out).mono ?_
    rintro e w1 ⟨rfl, hb1⟩
    rw [HS.out] at hb1
    have hbw : Below w.heap.size w ((w.alloc (.cells #[sv, bv] 184)).alloc (.cells #[.string ⟨#[]⟩, .bool false] 184)) := ((Below.refl _ _).alloc (Nat.le_refl _) _).alloc (by simp) _
    have hbz := obj_below (obj_new2 w (.cells #[sv, bv] 184) (.cells #[.string ⟨#[]⟩, .bool false] 184)) hb1
    have z0 := obj_cell hbz 0
    have z1 := obj_cell hbz 1
    have f0 := obj_frozen hbz 0
    have f1 := obj_frozen hbz 1
    simp only [List.getElem?_toArray, List.getElem?_cons_zero, List.getElem?_cons_succ] at z0 z1
    have HZ := hide hbz
    have HB1 := hide (hbw.trans (hb1.mono (by simp; omega)))
    have hs1 := hb1.size
    simp only [World.size_alloc] at hs1
    have hs2 : w.heap.size + 1 < w1.heap.size := by omega
    have hs3 : w.heap.size < w1.heap.size := by omega
    clear hbz hb1 hbw
    rw [HS.out, show rdrCells (some r) = #[.string ⟨r.toArray⟩, .bool false] from rfl]
    go_wp2
    go_region
    go_wp2
    refine bodyPost_ret (res_ct rfl _ _ (w.heap.size + 1) 184 (rdrCells (some (r.drop n))) _ _ rfl (obj_alloc (set_two _ _ _ _ _ _ HZ.out) _) Try.underlying184 rfl (by kernel_rfl)) rfl ⟨rfl, ?_⟩
    exact (((HB1.out.setCell (p := ⟨w.heap.size + 1, 0, none⟩) (by simp) _).setCell (p := ⟨w.heap.size + 1, 1, none⟩) (by simp) _).alloc (by simp [World.setCell]; omega) _).drew
  · have ht : rText σ = ([], none) := by
      unfold rText
      split
      · rfl
      · rename_i r h2
        rw [if_neg (fun hh => hok ⟨r, h2, hh.1, hh.2⟩)]
    have hcall := r3TakeInt_any σ
    obtain ⟨s2, b2, hs2⟩ : ∃ s2 b2, rdrCells (rInt σ).2 = #[.string s2, .bool b2] := by cases (rInt σ).2 <;> exact ⟨_, _, rfl⟩
    have hneg : b2 = true ∨ (b2 = false ∧ (rInt σ).1 < 0) ∨ (b2 = false ∧ ¬ (rInt σ).1 < 0 ∧ (s2.size : Int) < (rInt σ).1) := by
      rcases h2 : (rInt σ).2 with _ | r
      · rw [h2] at hs2
        simp only [rdrCells, Array.mk.injEq, List.cons.injEq, Value.bool.injEq, Value.string.injEq, and_true] at hs2
        exact .inl hs2.2.symm
      · rw [h2] at hs2
        simp only [rdrCells, Array.mk.injEq, List.cons.injEq, Value.bool.injEq, Value.string.injEq, and_true] at hs2
        obtain ⟨rfl, rfl⟩ := hs2
        rcases Int.lt_or_le (rInt σ).1 0 with h | h
        · exact .inr (.inl ⟨rfl, h⟩)
        · exact .inr (.inr ⟨rfl, by omega, Int.not_le.1 (fun h' => hok ⟨r, h2, h, by rw [str_size] at h'; exact h'⟩)⟩)
    obtain ⟨n, hn⟩ : ∃ n, n = (rInt σ).1 := ⟨_, rfl⟩
    rw [← hn] at hneg
    rw [hs2, ← hn] at hcall
    have HC := hide hcall
    rw [ht]
    have HS := hide hσ
    rw [hσ]
    clear ht hcall hn hσ hs2 hok
    rcases hneg with rfl | ⟨rfl, hn⟩ | ⟨rfl, hn0, hn⟩
    all_goals
      go_enter Try.func123, Try.ntmps123
      go_wp2_with fail
      rw [← HS.out]
      refine (HC.out _ HL.out).mono ?_
      rintro e w1 ⟨rfl, hb1⟩
      rw [HS.out] at hb1
      have hbw : Below w.heap.size w ((w.alloc (.cells #[sv, bv] 184)).alloc (.cells #[.string ⟨#[]⟩, .bool false] 184)) := ((Below.refl _ _).alloc (Nat.le_refl _) _).alloc (by simp) _
      have hbx := obj_below (obj_alloc (obj_new w (.cells #[sv, bv] 184)) (.cells #[.string ⟨#[]⟩, .bool false] 184)) hb1
      have y0 := obj_cell hbx 0
      have y1 := obj_cell hbx 1
      have hbz := obj_below (obj_new2 w (.cells #[sv, bv] 184) (.cells #[.string ⟨#[]⟩, .bool false] 184)) hb1
      simp only [List.getElem?_toArray, List.getElem?_cons_zero, List.getElem?_cons_succ] at y0 y1
      have HZ := hide hbz
      have HB1 := hide (hbw.trans (hb1.mono (by simp; omega)))
      have hs1 := hb1.size
      simp only [World.size_alloc] at hs1
      have hs2 : w.heap.size + 1 < w1.heap.size := by omega
      have hs3 : w.heap.size < w1.heap.size := by omega
      clear hbz hb1 hbw hbx
      rw [HS.out]
      go_wp2_with fail
      refine (bad_any _ _ _).mono ?_
      rintro e w2 ⟨rfl, hb2⟩
      have hbz := obj_below (obj_alloc HZ.out _) hb2
      have z0 := obj_cell hbz 0
      have z1 := obj_cell hbz 1
      have f0 := obj_frozen hbz 0
      have f1 := obj_frozen hbz 1
      simp only [List.getElem?_toArray, List.getElem?_cons_zero, List.getElem?_cons_succ] at z0 z1
      have HZ2 := hide hbz
      have HB2 := hide ((HB1.out.alloc (by omega) _).trans (hb2.mono (by simp; omega)))
      clear hbz hb2
      rw [show rdrCells none = #[.string ⟨#[]⟩, .bool true] from rfl]
      go_wp2
      refine bodyPost_ret (res_ct rfl _ _ (w.heap.size + 1) 184 (rdrCells none) _ _ rfl (set_two _ _ _ _ _ _ HZ2.out) Try.underlying184 rfl (by kernel_rfl)) rfl ⟨rfl, ?_⟩
      exact ((HB2.out).setCell (p := ⟨w.heap.size + 1, 0, none⟩) (by simp) _).setCell (p := ⟨w.heap.size + 1, 1, none⟩) (by simp) _
end Go.Proofs.Ytljmaicobafgkaa
end
section
/- The walks of package frames. -/
namespace Go.Proofs.Ytljmaicobafgkaa
open Go.RowKit

def msgV (k f t i : Int) (b : ByteArray) : Value := .agg #[.int .i64 k, .int .i64 f, .int .i64 t, .int .i64 i, .string b]
def msgOk (k f t i : Int) : Prop := 1 ≤ k ∧ k ≤ 99 ∧ 0 ≤ f ∧ f ≤ 63 ∧ 0 ≤ t ∧ t ≤ 63 ∧ 0 ≤ i ∧ i < 2147483648
instance (k f t i : Int) : Decidable (msgOk k f t i) := by unfold msgOk; infer_instance
def chk (k f t i : Int) (n : Nat) : Int := if msgOk k f t i then (if 4096 < n then 2 else 0) else 1

set_option maxRecDepth 100000 in
theorem check_any (k f t i : Int) (b : ByteArray) (w : World) (hb : b.size ≤ 9223372036854775807) :
    Calls Try.prog 46 #[.agg #[.int .i64 k, .int .i64 f, .int .i64 t, .int .i64 i, .string b]] w fun e w' => e = .returned (.int .i64 (chk k f t i b.size)) ∧ Below w.heap.size w w' := by
  by_cases h0 : k < 1
  · have hv : chk k f t i b.size = 1 := if_neg (by unfold msgOk; omega)
    rw [hv]
    clear hv
    go_enter Try.func46, Try.ntmps46
    go_wp2
    go_ret
    exact ⟨rfl, (Below.refl _ _).alloc (Nat.le_refl _) _⟩
  by_cases h1 : 99 < k
  · have hv : chk k f t i b.size = 1 := if_neg (by unfold msgOk; omega)
    rw [hv]
    clear hv
    go_enter Try.func46, Try.ntmps46
    go_wp2
    go_ret
    exact ⟨rfl, (Below.refl _ _).alloc (Nat.le_refl _) _⟩
  by_cases h2 : f < 0
  · have hv : chk k f t i b.size = 1 := if_neg (by unfold msgOk; omega)
    rw [hv]
    clear hv
    go_enter Try.func46, Try.ntmps46
    go_wp2
    go_ret
    exact ⟨rfl, (Below.refl _ _).alloc (Nat.le_refl _) _⟩
  by_cases h3 : 63 < f
  · have hv : chk k f t i b.size = 1 := if_neg (by unfold msgOk; omega)
    rw [hv]
    clear hv
    go_enter Try.func46, Try.ntmps46
    go_wp2
    go_ret
    exact ⟨rfl, (Below.refl _ _).alloc (Nat.le_refl _) _⟩
  by_cases h4 : t < 0
  · have hv : chk k f t i b.size = 1 := if_neg (by unfold msgOk; omega)
    rw [hv]
    clear hv
    go_enter Try.func46, Try.ntmps46
    go_wp2
    go_ret
    exact ⟨rfl, (Below.refl _ _).alloc (Nat.le_refl _) _⟩
  by_cases h5 : 63 < t
  · have hv : chk k f t i b.size = 1 := if_neg (by unfold msgOk; omega)
    rw [hv]
    clear hv
    go_enter Try.func46, Try.ntmps46
    go_wp2
    go_ret
    exact ⟨rfl, (Below.refl _ _).alloc (Nat.le_refl _) _⟩
  by_cases h6 : i < 0
  · have hv : chk k f t i b.size = 1 := if_neg (by unfold msgOk; omega)
    rw [hv]
    clear hv
    go_enter Try.func46, Try.ntmps46
    go_wp2
    go_ret
    exact ⟨rfl, (Below.refl _ _).alloc (Nat.le_refl _) _⟩
  by_cases h7 : 2147483648 ≤ i
  · have hv : chk k f t i b.size = 1 := if_neg (by unfold msgOk; omega)
    rw [hv]
    clear hv
    go_enter Try.func46, Try.ntmps46
    go_wp2
    go_ret
    exact ⟨rfl, (Below.refl _ _).alloc (Nat.le_refl _) _⟩
  by_cases h8 : 4096 < b.size
  · have hv : chk k f t i b.size = 2 := by unfold chk; rw [if_pos (by unfold msgOk; omega), if_pos h8]
    rw [hv]
    clear hv
    go_enter Try.func46, Try.ntmps46
    go_wp2
    go_ret
    exact ⟨rfl, (Below.refl _ _).alloc (Nat.le_refl _) _⟩
  · have hv : chk k f t i b.size = 0 := by unfold chk; rw [if_pos (by unfold msgOk; omega), if_neg h8]
    rw [hv]
    clear hv
    go_enter Try.func46, Try.ntmps46
    go_wp2
    go_ret
    exact ⟨rfl, (Below.refl _ _).alloc (Nat.le_refl _) _⟩

def fInt (at_ : Addr) (a b : FuncId) (wv rv : Value) : Value := .iface 255 (.agg #[.pointer (some at_), .func (.func a) #[wv] #[], .func (.func b) #[rv] #[]])
def fStr (at_ : Addr) (a b : FuncId) (wv rv : Value) : Value := .iface 259 (.agg #[.pointer (some at_), .func (.func a) #[wv] #[], .func (.func b) #[rv] #[]])
set_option maxRecDepth 100000 in
theorem parts_any (g : Nat) (wv rv : Value) (w : World) :
    Calls Try.prog 116 #[.pointer (some ⟨g, 0, none⟩), wv, rv] w fun e w' => ∃ q, e = .returned (.slice (some ⟨q, 0, none⟩) 5 5) ∧ q = w.heap.size ∧
      w'.heap[q]? = some (.cells #[fInt ⟨g, 0, none⟩ 129 133 wv rv, fInt ⟨g, 1, none⟩ 129 133 wv rv, fInt ⟨g, 2, none⟩ 129 133 wv rv, fInt ⟨g, 3, none⟩ 108 112 wv rv, fStr ⟨g, 4, none⟩ 168 169 wv rv] 192 (0, 0)) ∧ Below w.heap.size w w' := by
  go_enter Try.func116, Try.ntmps116
  go_wp2
  refine wp_stl 45 (by kernel_rfl) (by kernel_rfl) ?_
  simp only [List.take_succ_cons, List.take_zero, List.drop_succ_cons, List.drop_zero]
  repeat still_step
  refine wpStill_nil ?_
  go_wp2
  go_ret
  exact ⟨_, rfl, rfl, obj_new _ _, ((Below.refl w.heap.size w).alloc (Nat.le_refl _) _).drew⟩
end Go.Proofs.Ytljmaicobafgkaa
end
