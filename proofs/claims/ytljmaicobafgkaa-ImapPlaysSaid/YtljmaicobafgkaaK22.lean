/- A join of 2 texts of this claim: Ord5, Im14. Conditions: none of their own. -/
import Derived.Test.YtljmaicobafgkaaK13
import Derived.Test.YtljmaicobafgkaaK21
section
/- A region that draws its order, by what each operation yields; what holds of the world may turn with what has come up (told by d). -/
namespace Go.Proofs.Ytljmaicobafgkaa
open Go.RowKit

section
variable {P : Program} {ops : Array Oper} {Q : Exit → Act → World → Prop}
def StepsD (P : Program) (ops : Array Oper) (Q : Exit → Act → World → Prop) (A : (Nat → Value) → Act) (S : (Nat → Bool) → (Nat → Value) → World → Prop) (V : Nat → Value → World → Prop) : List Oper → Nat → Prop
  | [], _ => True
  | o :: l, i => (∀ d x w, S d x w → d i = false → (∀ e ∈ o.after.toList.filter (Region.binds .any), V e.on (x e.on) w) → (∀ e ∈ o.after.toList.filter (Region.binds .any), d e.on = true) → ∀ K : Act → World → Prop,
      (∀ v w', S (fun j => if j = i then true else d j) (fun j => if j = i then v else x j) w' → V i v w' → (∀ j u, j ≠ i → V j u w → V j u w') → K ((A x).put o.dst v) w') → Region.wanted o (yielded ops (A x).tmps) = true ∧ Oper.wp P o (A x) w K Q) ∧ StepsD P ops Q A S V l (i + 1)
theorem StepsD.get {A : (Nat → Value) → Act} {S : (Nat → Bool) → (Nat → Value) → World → Prop} {V : Nat → Value → World → Prop} : ∀ (l : List Oper) (k : Nat), StepsD P ops Q A S V l k → ∀ (i : Nat) (o : Oper), l[i]? = some o →
    ∀ d x w, S d x w → d (k + i) = false → (∀ e ∈ o.after.toList.filter (Region.binds .any), V e.on (x e.on) w) → (∀ e ∈ o.after.toList.filter (Region.binds .any), d e.on = true) → ∀ K : Act → World → Prop,
      (∀ v w', S (fun j => if j = k + i then true else d j) (fun j => if j = k + i then v else x j) w' → V (k + i) v w' → (∀ j u, j ≠ k + i → V j u w → V j u w') → K ((A x).put o.dst v) w') → Region.wanted o (yielded ops (A x).tmps) = true ∧ Oper.wp P o (A x) w K Q
  | [], _, _, _, _, h => by simp at h
  | _ :: _, _, hs, 0, _, h => by
    simp only [List.getElem?_cons_zero, Option.some.injEq] at h
    subst h
    exact hs.1
  | _ :: l, k, hs, i + 1, o, h => by
    have := StepsD.get l (k + 1) hs.2 i o (by simpa using h)
    rw [show k + 1 + i = k + (i + 1) from by omega] at this
    exact this
theorem wp_region_d {id : Nat} (A : (Nat → Value) → Act) (x0 : Nat → Value) (S : (Nat → Bool) → (Nat → Value) → World → Prop) (V : Nat → Value → World → Prop) {a : Act} {w : World}
    (hm : P.follows .mixedOrders = true) (hord : orderedB ops = true) (ha : a = A x0) (h0 : S (fun _ => false) x0 w.drew)
    (hput : Puts A ops.toList 0) (hstep : StepsD P ops Q A S V ops.toList 0)
    (hdone : ∀ d x w', S d x w' → (∀ i, i < ops.size → d i = true) → (∀ i, i < ops.size → V i (x i) w') → Q .normal (A x) w') : (Code.region id ops true).wp P Q a w := by
  subst ha
  refine wp_region_any hm (wpAny_inv (fun li a w => ∃ x, a = A x ∧ S (fun j => li.getD j false) x w ∧ ∀ i, li.getD i false = true → V i (x i) w) hord ?_ ?_ _ _ _ _ (by simp) ?_ ⟨x0, rfl, ?_, ?_⟩)
  · rintro l a w _ ⟨x, rfl, hs, hv⟩ hall
    exact hdone _ x w hs hall fun i hi => hv i (hall i hi)
  · rintro i o ho l a w ⟨x, rfl, hs, hv⟩ h0 hdep K hK
    have hl : ops.toList[i]? = some o := by rw [Array.getElem?_toList]; exact ho
    have hi2 : i < ops.size := (Array.getElem?_eq_some_iff.1 ho).1
    have hil : i < l.size := by
      rcases Nat.lt_or_ge i l.size with h' | h'
      · exact h'
      · simp [Array.getElem?_eq_none h'] at h0
    have hdi : l.getD i false = false := by
      simp only [Array.getD_eq_getD_getElem?, Array.getElem?_eq_getElem hil, Option.getD_some] at h0 ⊢
      exact h0
    have hset : (fun j => (l.setIfInBounds i true).getD j false) = fun j => if j = 0 + i then true else l.getD j false := by
      funext j
      rw [Nat.zero_add]
      by_cases hji : j = i
      · subst hji
        simp [hil]
      · rw [getD_set_ne false (Ne.symm hji), if_neg hji]
    have hg : Region.wanted o (yielded ops (A x).tmps) = true ∧ Oper.wp P o (A x) w K Q := by
      refine StepsD.get ops.toList 0 hstep i o hl (fun j => l.getD j false) x w hs (by rw [Nat.zero_add]; exact hdi) (fun e he => ?_) (fun e he => ?_) K fun v w' hs' hv' hst => hK _ _ ⟨fun j => if j = 0 + i then v else x j, Puts.get ops.toList 0 hput i o hl x v, by rw [hset]; exact hs', fun j hj => ?_⟩
      · rw [List.mem_filter] at he
        exact hv e.on (hdep e (by simpa using he.1) he.2)
      · rw [List.mem_filter] at he
        exact hdep e (by simpa using he.1) he.2
      · by_cases hji : j = i
        · subst hji
          show V j (if j = 0 + j then v else x j) w'
          rw [Nat.zero_add, if_pos rfl]
          rw [Nat.zero_add] at hv'
          exact hv'
        · show V j (if j = 0 + i then v else x j) w'
          rw [Nat.zero_add, if_neg hji]
          rw [getD_set_ne false (Ne.symm hji)] at hj
          exact hst j _ (by omega) (hv j hj)
    rw [if_pos hg.1]
    exact hg.2
  · simp
  · have : (fun j => (Array.replicate ops.size false).getD j false) = fun _ => false := by
      funext j
      simp [Array.getElem?_replicate]
      split <;> rfl
    first
      | exact this ▸ h0
      | (rw [this]; exact h0)
  · intro i hi
    exfalso
    simp [Array.getElem?_replicate] at hi
    split at hi <;> simp at hi
end
end Go.Proofs.Ytljmaicobafgkaa
end
section
/- Chapter 25, imap: the reference's Move and Drop. -/
namespace Go.Proofs.Ytljmaicobafgkaa
open Go.RowKit

theorem res_ctt {P : Program} {fn : Func} {p u v : Tmp} {ty : TypeId} (h : fn.results = #[.cell p ty, .tmp u, .tmp v]) (tmps : Array Value) (w : World) (g : Nat) (t : TypeId) (cs : Array Value) (fr : Nat × Nat) (d : TypeDesc)
    (hp : tmps.getD p undef = .pointer (some ⟨g, 0, none⟩)) (hg : w.heap[g]? = some (.cells cs t fr)) (hu : P.underlying ty = some d) (hd : (match d with | .struct _ | .array _ _ => true | _ => false) = true)
    (hi : (P.info? ty).map (·.size) = some cs.size) : (results fn tmps).run P w = .ok (.tuple #[.agg cs, tmps.getD u undef, tmps.getD v undef]) w := by
  have hp' : tmps[p]?.getD undef = .pointer (some ⟨g, 0, none⟩) := by simpa using hp
  simp [results, h, hp', asAddr, run_loadVar_row w g t ty cs fr d hg hu hd hi]
theorem wp_loadv {P : Program} {o : Oper} {a : Act} {w : World} {K : Act → World → Prop} {Q : Exit → Act → World → Prop} (ty : TypeId) (x : Operand) (ho : o.op = .load ty x) {p v : Value} (hx : a.eval x = p)
    (hrun : (Instr.loadAt ty p).run P w = .ok v w) (h : K (a.put o.dst v) w) : Oper.wp P o a w K Q := by
  unfold Oper.wp execOp
  simp only [ho, hx, Sem.run_bind, hrun, Result.andThen_ok, Sem.run_pure]
  exact h
theorem wp_storev {P : Program} {o : Oper} {a : Act} {w w' : World} {K : Act → World → Prop} {Q : Exit → Act → World → Prop} (ty : TypeId) (x y : Operand) (ho : o.op = .store ty x y) {p v : Value} (hx : a.eval x = p) (hy : a.eval y = v)
    (hrun : (Instr.storeAt ty p v).run P w = .ok () w') (h : K (a.put o.dst undef) w') : Oper.wp P o a w K Q := by
  unfold Oper.wp execOp
  simp only [ho, hx, hy, Sem.run_bind, hrun, Result.andThen_ok, Sem.run_pure]
  exact h
theorem wpStill_loadv {P : Program} {ops : Array Oper} {w : World} {Q : Act → Prop} {a : Act} {o : Oper} {rest : List Oper} (hgd : o.guard = none) (ty : TypeId) (x : Operand) (ho : o.op = .load ty x) {p v : Value} (hx : a.eval x = p)
    (hrun : (Instr.loadAt ty p).run P w = .ok v w) (h : wpStill P ops w Q rest (a.put o.dst v)) : wpStill P ops w Q (o :: rest) a :=
  wpStill_step fun K hK => by
    rw [if_pos (wanted_none hgd _)]
    unfold Oper.still execOp
    simp only [ho, hx, Sem.run_bind, hrun, Result.andThen_ok, Sem.run_pure]
    exact ⟨rfl, hK _ h⟩
set_option maxHeartbeats 4000000 in
set_option maxRecDepth 100000 in
theorem rdrop_any (C : Array Value) (M : Nat → Spot) (r : Rep C M) (i v : Int) (w : World) :
    Calls Try.prog 30 #[.agg C, .int .i64 i, .int .i64 v] w fun e w' => (∃ C', Rep C' (dpOut M i v).1 ∧ e = .returned (.tuple #[.agg C', .int .i64 (dpOut M i v).2])) ∧ Below w.heap.size w w' := by
  have hsz : (w.alloc (.cells C 30)).heap.size = w.heap.size + 1 := by simp
  have H0 := hide ((rm_new r w).below ((Below.refl _ _).alloc (Nat.le_refl _) (.cells Try.zeroCells30 30)))
  have HZ0 : Hid (RM ((w.alloc (.cells C 30)).alloc (.cells Try.zeroCells30 30)) (w.heap.size + 1) z25) := hide (by rw [← hsz]; exact rm_new rep_z30 _)
  have HB := hide (((Below.refl w.heap.size w).alloc (Nat.le_refl _) (.cells C 30)).alloc (by simp) (.cells Try.zeroCells30 30))
  have hne : ¬ w.heap.size + 1 = w.heap.size := by omega
  by_cases h0 : mayI i
  · obtain ⟨k, rfl⟩ : ∃ k : Nat, i = k := ⟨i.toNat, by have := h0.1; omega⟩
    have hk : k < 256 := by have := h0.2; omega
    obtain ⟨-, -, -, d⟩ := H0.out.cells hk
    by_cases h1 : (M k).ver = 0
    · rw [show dpOut M k v = (M, 7) from by unfold dpOut; rw [if_neg (by simp [h0]), if_pos (by rw [Int.toNat_natCast]; exact h1)]]
      rw [h1] at d
      go_enter Try.func30, Try.ntmps30
      go_wp2_with fail
      refine (rmay_any _ _).mono ?_
      rintro e w1 ⟨rfl, rfl⟩
      rw [decide_eq_true h0]
      clear h0 h1
      go_wp2_with (first | (refine wpList_loadR rfl (.tmp 3) rfl H0.out rfl ?_; intro C1 r1 _) | (refine wpList_storeR rfl (.tmp 6) (.tmp 20) rfl HZ0.out r1 rfl rfl ?_; intro w3 h3 f3))
      refine bodyPost_ret (res_ct rfl _ _ (w.heap.size + 1) 30 _ (0, 0) _ rfl h3 Try.underlying30 rfl (by rw [r1.1]; exact info30s)) rfl ?_
      exact ⟨⟨C1, r1, rfl⟩, HB.out.trans (f3.below _ HB.out.size (fun q hq e => by omega))⟩
    · have h1' : ((M k).ver == 0) = false := by simp [h1]
      by_cases h2 : (M k).ver = v
      · subst h2
        rw [show dpOut M k (M k).ver = (upd M k noSpot, 0) from by unfold dpOut; rw [if_neg (by simp [h0]), if_neg (by rw [Int.toNat_natCast]; exact h1), if_pos (by rw [Int.toNat_natCast]), Int.toNat_natCast]]
        go_enter Try.func30, Try.ntmps30
        go_wp2_with fail
        refine (rmay_any _ _).mono ?_
        rintro e w1 ⟨rfl, rfl⟩
        rw [decide_eq_true h0]
        clear h0 h1
        go_wp2_with (first | (refine wpList_spotR rfl (.tmp 33) (.tmp 31) rfl H0.out hk noSpot rfl rfl ?_; intro w4 hR4 f4; have HZ4 := hide (RM.fr HZ0.out f4 hne)) | (refine wpList_loadR rfl (.tmp 3) rfl hR4 rfl ?_; intro C1 r1 _) | (refine wpList_storeR rfl (.tmp 6) (.tmp 34) rfl HZ4.out r1 rfl rfl ?_; intro w3 h3 f3))
        refine bodyPost_ret (res_ct rfl _ _ (w.heap.size + 1) 30 _ (0, 0) _ rfl h3 Try.underlying30 rfl (by rw [r1.1]; exact info30s)) rfl ?_
        have hb4 := HB.out.trans (f4.below _ HB.out.size (fun q hq e => by omega))
        exact ⟨⟨C1, r1, rfl⟩, hb4.trans (f3.below _ hb4.size (fun q hq e => by omega))⟩
      · have h2' : (v == (M k).ver) = false := by
          have : ¬ v = (M k).ver := fun e => h2 e.symm
          simp [this]
        rw [show dpOut M k v = (M, 10) from by unfold dpOut; rw [if_neg (by simp [h0]), if_neg (by rw [Int.toNat_natCast]; exact h1), if_neg (by rw [Int.toNat_natCast]; exact h2)]]
        go_enter Try.func30, Try.ntmps30
        go_wp2_with fail
        refine (rmay_any _ _).mono ?_
        rintro e w1 ⟨rfl, rfl⟩
        rw [decide_eq_true h0]
        have h2x : (v != (M k).ver) = true := by simp [bne, h2']
        clear h0 h1 h2 h2'
        go_wp2_with (first | (refine wpList_loadR rfl (.tmp 3) rfl H0.out rfl ?_; intro C1 r1 _) | (refine wpList_storeR rfl (.tmp 6) (.tmp 29) rfl HZ0.out r1 rfl rfl ?_; intro w3 h3 f3))
        refine bodyPost_ret (res_ct rfl _ _ (w.heap.size + 1) 30 _ (0, 0) _ rfl h3 Try.underlying30 rfl (by rw [r1.1]; exact info30s)) rfl ?_
        exact ⟨⟨C1, r1, rfl⟩, HB.out.trans (f3.below _ HB.out.size (fun q hq e => by omega))⟩
  · rw [show dpOut M i v = (M, 1) from if_pos h0]
    go_enter Try.func30, Try.ntmps30
    go_wp2_with fail
    refine (rmay_any _ _).mono ?_
    rintro e w1 ⟨rfl, rfl⟩
    rw [decide_eq_false h0]
    go_wp2_with (first | (refine wpList_loadR rfl (.tmp 3) rfl H0.out rfl ?_; intro C1 r1 _) | (refine wpList_storeR rfl (.tmp 6) (.tmp 12) rfl HZ0.out r1 rfl rfl ?_; intro w3 h3 f3))
    refine bodyPost_ret (res_ct rfl _ _ (w.heap.size + 1) 30 _ (0, 0) _ rfl h3 Try.underlying30 rfl (by rw [r1.1]; exact info30s)) rfl ?_
    exact ⟨⟨C1, r1, rfl⟩, HB.out.trans (f3.below _ HB.out.size (fun q hq e => by omega))⟩
def mvA (C : Array Value) (k : Nat) (v : Int) (x : Spot) (b : Nat) (y : Nat → Value) : Act := ⟨#[.agg C, .int .i64 (k : Int), .int .i64 v, .agg #[.int .i64 x.seg, .int .i64 x.frm, .int .i64 x.len, .int .i64 x.ver], .pointer (some ⟨b, 0, none⟩), undef, undef, .pointer (some ⟨b + 1, 0, none⟩), .pointer (some ⟨b + 1 + 1, 0, none⟩), y 4, y 5, .int .i64 (k : Int), .bool true, .bool false, .bool false, .agg #[.int .i64 x.seg, .int .i64 x.frm, .int .i64 x.len, .int .i64 x.ver], .bool true, .bool false, .bool false, undef, .int .i64 v, .int .i64 (k : Int), .pointer (some ⟨b, 0, none⟩), .pointer (some ⟨b, k * 4, none⟩), .pointer (some ⟨b, k * 4 + 3, none⟩), .int .i64 v, .bool false, undef, .int .i64 v, .int .i64 (v + 1), .pointer (some ⟨b + 1, 3, none⟩), .int .i64 (k : Int), .agg #[.int .i64 x.seg, .int .i64 x.frm, .int .i64 x.len, .int .i64 (v + 1)], .pointer (some ⟨b, 0, none⟩), .pointer (some ⟨b, k * 4, none⟩), y 0, y 1, y 2], []⟩
set_option maxHeartbeats 4000000 in
set_option maxRecDepth 100000 in
theorem rmove_any (C : Array Value) (M : Nat → Spot) (r : Rep C M) (hm : Mok M) (i v : Int) (x : Spot) (w : World) :
    Calls Try.prog 28 #[.agg C, .int .i64 i, .int .i64 v, .agg #[.int .i64 x.seg, .int .i64 x.frm, .int .i64 x.len, .int .i64 x.ver]] w fun e w' => (∃ C', Rep C' (mvOut M i v x).1 ∧ e = .returned (.tuple #[.agg C', .int .i64 (mvOut M i v x).2.1, .int .i64 (mvOut M i v x).2.2])) ∧ Below w.heap.size w w' := by
  have hsz : (w.alloc (.cells C 30)).heap.size = w.heap.size + 1 := by simp
  have hsz2 : ((w.alloc (.cells C 30)).alloc (.cells #[.int .i64 x.seg, .int .i64 x.frm, .int .i64 x.len, .int .i64 x.ver] 27)).heap.size = w.heap.size + 1 + 1 := by simp
  have H0 := hide (((rm_new r w).below ((Below.refl _ _).alloc (Nat.le_refl _) (.cells #[.int .i64 x.seg, .int .i64 x.frm, .int .i64 x.len, .int .i64 x.ver] 27))).below ((Below.refl _ _).alloc (Nat.le_refl _) (.cells Try.zeroCells30 30)))
  have HX0 : Hid ((((w.alloc (.cells C 30)).alloc (.cells #[.int .i64 x.seg, .int .i64 x.frm, .int .i64 x.len, .int .i64 x.ver] 27)).alloc (.cells Try.zeroCells30 30)).heap[w.heap.size + 1]? = some (.cells #[.int .i64 x.seg, .int .i64 x.frm, .int .i64 x.len, .int .i64 x.ver] 27 (0, 0))) := hide (obj_alloc (by rw [← hsz]; exact obj_new _ _) _)
  have HZ0 : Hid (RM (((w.alloc (.cells C 30)).alloc (.cells #[.int .i64 x.seg, .int .i64 x.frm, .int .i64 x.len, .int .i64 x.ver] 27)).alloc (.cells Try.zeroCells30 30)) (w.heap.size + 1 + 1) z25) := hide (by rw [← hsz2]; exact rm_new rep_z30 _)
  have HB0 := hide ((((Below.refl w.heap.size w).alloc (Nat.le_refl _) (.cells C 30)).alloc (by simp) (.cells #[.int .i64 x.seg, .int .i64 x.frm, .int .i64 x.len, .int .i64 x.ver] 27)).alloc (by simp only [World.size_alloc]; omega) (.cells Try.zeroCells30 30))
  clear hsz hsz2
  by_cases h0 : mayI i
  · obtain ⟨k, rfl⟩ : ∃ k : Nat, i = k := ⟨i.toNat, by have := h0.1; omega⟩
    have hk : k < 256 := by have := h0.2; omega
    have hver := hm.2 k hk
    go_enter Try.func28, Try.ntmps28
    go_wp2_with fail
    refine (rmay_any _ _).mono ?_
    rintro e w0 ⟨rfl, rfl⟩
    rw [decide_eq_true h0]
    go_wp2_with fail
    refine (rspot_any x _).mono ?_
    rintro e w1 ⟨rfl, hb1⟩
    have H1 := hide (H0.out.below hb1)
    have HX1 := hide (obj_below HX0.out hb1)
    have HZ1 := hide (HZ0.out.below hb1)
    have HB1 := hide (HB0.out.trans (hb1.mono HB0.out.size))
    clear hb1 H0 HX0 HZ0 HB0
    by_cases h1 : x.ok
    · rw [decide_eq_true h1]
      obtain ⟨-, -, -, d⟩ := H1.out.cells hk
      by_cases h2 : (M k).ver = v
      · subst h2
        have HMV : Hid (mvOut M k (M k).ver x = (upd M k ⟨x.seg, x.frm, x.len, (M k).ver + 1⟩, (M k).ver + 1, 0)) := hide (by unfold mvOut; rw [if_neg (by simp [h0, h1]), if_neg (by rw [Int.toNat_natCast]; simp), Int.toNat_natCast])
        have x0 := obj_cell HX1.out 0
        have x1 := obj_cell HX1.out 1
        have x2 := obj_cell HX1.out 2
        have x3 := obj_cell HX1.out 3
        simp only [List.getElem?_toArray, List.getElem?_cons_zero, List.getElem?_cons_succ] at x0 x1 x2 x3
        have t3 := obj_frozen HX1.out 3
        have hv0 := hver.1
        have hv1 := hver.2.1
        generalize hve : (M k).ver = v at d hv0 hv1 HMV ⊢
        have HVE := hide hve
        clear hve
        obtain ⟨y, hy⟩ : ∃ y : Spot, y = ⟨x.seg, x.frm, x.len, v + 1⟩ := ⟨_, rfl⟩
        rw [← hy] at HMV
        have HY := hide hy
        have F2 := (Fr.refl (fun k => k = w.heap.size + 1) w1).setCell (p := ⟨w.heap.size + 1, 3, none⟩) (fun _ => rfl) (.int .i64 (v + 1))
        have H2 := hide (H1.out.fr F2 (by omega))
        have HZ2 := hide (HZ1.out.fr F2 (by omega))
        have HB2 := hide (HB1.out.trans (F2.below _ HB1.out.size (fun q hq e => by omega)))
        have HX2 := hide (obj_set HX1.out 3 (.int .i64 (v + 1)))
        clear h0 h1 hy F2
        go_wp2_with (refine wpList_spotR rfl (.tmp 34) (.tmp 32) rfl H2.out hk y rfl (by rw [HY.out]; rfl) ?_; intro w2 hR2 f2)
        have HX3 := hide (f2.obj HX2.out (by omega))
        have x3 := obj_cell HX3.out 3
        simp only [List.getElem?_toArray, List.getElem?_cons_zero, List.getElem?_cons_succ, List.setIfInBounds_toArray, List.set_cons_zero, List.set_cons_succ] at x3
        have HR2 := hide hR2
        have HZ3 := hide (HZ2.out.fr f2 (by omega))
        have HB3 := hide (HB2.out.trans (f2.below _ HB2.out.size (fun q hq e => by omega)))
        clear hR2 f2 t3 d
        obtain ⟨C2, hC2, r2⟩ := HR2.out
        have HC2 := hide hC2
        have HR := hide r2
        clear hC2 r2
        refine wp_region_d (mvA C k v x w.heap.size) (fun j => if j = 4 ∨ j = 5 then .int .i64 0 else undef)
          (fun d _ w' => w'.heap[w.heap.size]? = some (.cells C2 30 (0, 0)) ∧ w'.cell? ⟨w.heap.size + 1, 3, none⟩ = some (.int .i64 (v + 1)) ∧ (∃ M2, RM w' (w.heap.size + 1 + 1) M2) ∧ (d 3 = true → w'.heap[w.heap.size + 1 + 1]? = some (.cells C2 30 (0, 0))) ∧ Below w.heap.size w w')
          (fun i u _ => match i with | 0 => u = .agg C2 | 1 => u = .pointer (some ⟨w.heap.size + 1, 3, none⟩) | 2 => u = .int .i64 (v + 1) | 4 => u = .int .i64 (v + 1) | 5 => u = .int .i64 0 | _ => True)
          (by kernel_rfl) (by kernel_rfl) rfl ⟨HC2.out, x3, ⟨_, HZ3.out⟩, (fun h => by cases h), HB3.out.drew⟩ ?_ ?_ ?_
        · exact ⟨fun x v => rfl, fun x v => rfl, fun x v => rfl, fun x v => rfl, fun x v => rfl, fun x v => rfl, trivial⟩
        · refine ⟨?_, ?_, ?_, ?_, ?_, ?_, trivial⟩
          · intro d y w' hS hdi hd hdd K hK
            refine ⟨rfl, ?_⟩
            exact wp_loadv 30 (.tmp 4) rfl rfl (load30 HR.out hS.1) (hK (.agg C2) w' ⟨hS.1, hS.2.1, hS.2.2.1, fun h => hS.2.2.2.1 (by simpa using h), hS.2.2.2.2⟩ rfl (fun _ _ _ h => h))
          · intro d y w' hS hdi hd hdd K hK
            refine ⟨rfl, ?_⟩
            unfold mvA at hK ⊢
            go_wp2
            exact hK (.pointer (some ⟨w.heap.size + 1, 3, none⟩)) w' ⟨hS.1, hS.2.1, hS.2.2.1, fun h => hS.2.2.2.1 (by simpa using h), hS.2.2.2.2⟩ rfl (fun _ _ _ h => h)
          · intro d y w' hS hdi hd hdd K hK
            have d0 : y 1 = .pointer (some ⟨w.heap.size + 1, 3, none⟩) := hd _ List.mem_cons_self
            refine ⟨rfl, ?_⟩
            unfold mvA at hK ⊢
            simp only [d0] at hK ⊢
            have z := hS.2.1
            go_wp2
            exact hK (.int .i64 (v + 1)) w' ⟨hS.1, hS.2.1, hS.2.2.1, fun h => hS.2.2.2.1 (by simpa using h), hS.2.2.2.2⟩ rfl (fun _ _ _ h => h)
          · intro d y w' hS hdi hd hdd K hK
            have d0 : y 0 = .agg C2 := hd _ List.mem_cons_self
            refine ⟨rfl, ?_⟩
            obtain ⟨s1, s2, ⟨M2, C3, s3, r3⟩, s4, s5⟩ := hS
            have hst := store30 HR.out r3.1 s3
            have F := setRow_fr w' (w.heap.size + 1 + 1) C2
            refine wp_storev 30 (.tmp 8) (.tmp 35) rfl rfl (by show y 0 = _; exact d0) hst ?_
            refine hK undef _ ⟨F.obj s1 (by omega), ?_, ⟨_, _, setRow_at s3, HR.out⟩, fun _ => setRow_at s3, s5.trans (F.below _ s5.size (fun q hq e => by omega))⟩ trivial (fun _ _ _ h => h)
            rw [← s2]
            unfold World.cell?
            simp only
            rw [setRow_far (by omega)]
          · intro d y w' hS hdi hd hdd K hK
            have d0 : y 2 = .int .i64 (v + 1) := by first | exact hd _ List.mem_cons_self | exact hd _ (List.mem_cons_of_mem _ List.mem_cons_self)
            refine ⟨rfl, ?_⟩
            unfold mvA at hK ⊢
            simp only [d0] at hK ⊢
            go_wp2
            exact hK (.int .i64 (v + 1)) w' ⟨hS.1, hS.2.1, hS.2.2.1, fun h => hS.2.2.2.1 (by simpa using h), hS.2.2.2.2⟩ rfl (fun _ _ _ h => h)
          · intro d y w' hS hdi hd hdd K hK
            refine ⟨rfl, ?_⟩
            unfold mvA at hK ⊢
            go_wp2
            exact hK (.int .i64 0) w' ⟨hS.1, hS.2.1, hS.2.2.1, fun h => hS.2.2.2.1 (by simpa using h), hS.2.2.2.2⟩ rfl (fun _ _ _ h => h)
        · intro d y w' hS hd hv
          have v4 : y 4 = .int .i64 (v + 1) := hv 4 (by decide)
          have v5 : y 5 = .int .i64 0 := hv 5 (by decide)
          have h3 := hS.2.2.2.1 (hd 3 (by decide))
          have HS := hide hS
          clear hS hv hd
          unfold mvA
          rw [v4, v5]
          go_wp2
          refine bodyPost_ret (res_ctt rfl _ _ (w.heap.size + 1 + 1) 30 _ (0, 0) _ rfl h3 Try.underlying30 rfl (by rw [HR.out.1]; exact info30s)) rfl ?_
          rw [HVE.out, HMV.out]
          exact ⟨⟨C2, HR.out, rfl⟩, HS.out.2.2.2.2⟩
      · have h2' : (v != (M k).ver) = true := by
          have : ¬ v = (M k).ver := fun e => h2 e.symm
          simp [this]
        have HMV : Hid (mvOut M k v x = (M, 0, 10)) := hide (by unfold mvOut; rw [if_neg (by simp [h0, h1]), if_pos (by rw [Int.toNat_natCast]; exact h2)])
        clear h0 h1 h2
        go_wp2_with (first | (refine wpList_loadR rfl (.tmp 4) rfl H1.out rfl ?_; intro C1 r1 _) | (refine wpList_storeR rfl (.tmp 8) (.tmp 27) rfl HZ1.out r1 rfl rfl ?_; intro w3 h3 f3))
        refine bodyPost_ret (res_ctt rfl _ _ (w.heap.size + 1 + 1) 30 _ (0, 0) _ rfl h3 Try.underlying30 rfl (by rw [r1.1]; exact info30s)) rfl ?_
        rw [HMV.out]
        exact ⟨⟨C1, r1, rfl⟩, HB1.out.trans (f3.below _ HB1.out.size (fun q hq e => by omega))⟩
    · rw [decide_eq_false h1]
      have HMV : Hid (mvOut M k v x = (M, 0, 1)) := hide (by unfold mvOut; rw [if_pos (by simp [h1])])
      clear h0 h1
      go_wp2_with (first | (refine wpList_loadR rfl (.tmp 4) rfl H1.out rfl ?_; intro C1 r1 _) | (refine wpList_storeR rfl (.tmp 8) (.tmp 19) rfl HZ1.out r1 rfl rfl ?_; intro w3 h3 f3))
      refine bodyPost_ret (res_ctt rfl _ _ (w.heap.size + 1 + 1) 30 _ (0, 0) _ rfl h3 Try.underlying30 rfl (by rw [r1.1]; exact info30s)) rfl ?_
      rw [HMV.out]
      exact ⟨⟨C1, r1, rfl⟩, HB1.out.trans (f3.below _ HB1.out.size (fun q hq e => by omega))⟩
  · have HMV : Hid (mvOut M i v x = (M, 0, 1)) := hide (by unfold mvOut; rw [if_pos (by simp [h0])])
    go_enter Try.func28, Try.ntmps28
    go_wp2_with fail
    refine (rmay_any _ _).mono ?_
    rintro e w0 ⟨rfl, rfl⟩
    rw [decide_eq_false h0]
    go_wp2_with (first | (refine wpList_loadR rfl (.tmp 4) rfl H0.out rfl ?_; intro C1 r1 _) | (refine wpList_storeR rfl (.tmp 8) (.tmp 19) rfl HZ0.out r1 rfl rfl ?_; intro w3 h3 f3))
    refine bodyPost_ret (res_ctt rfl _ _ (w.heap.size + 1 + 1) 30 _ (0, 0) _ rfl h3 Try.underlying30 rfl (by rw [r1.1]; exact info30s)) rfl ?_
    rw [HMV.out]
    exact ⟨⟨C1, r1, rfl⟩, HB0.out.trans (f3.below _ HB0.out.size (fun q hq e => by omega))⟩
end Go.Proofs.Ytljmaicobafgkaa
end
