/- A join of 1 texts of this claim: Im11. Conditions: none of their own. -/
import Derived.Test.YtljmaicobafgkaaK15
section
/- Chapter 25, imap: the reference's Get, Free, Live. -/
namespace Go.Proofs.Ytljmaicobafgkaa
open Go.RowKit

/-- The block g is a map of the reference's. -/
def RM (w : World) (g : Nat) (M : Nat → Spot) : Prop := ∃ C, w.heap[g]? = some (.cells C 30 (0, 0)) ∧ Rep C M
theorem RM.lt {w : World} {g : Nat} {M : Nat → Spot} (h : RM w g M) : g < w.heap.size := by
  obtain ⟨C, hC, _⟩ := h
  exact obj_lt hC
theorem RM.below {w w' : World} {g : Nat} {M : Nat → Spot} (h : RM w g M) (hb : Below w.heap.size w w') : RM w' g M := by
  obtain ⟨C, hC, r⟩ := h
  exact ⟨C, obj_below hC hb, r⟩
theorem RM.fr {F : Nat → Prop} {w w' : World} {g : Nat} {M : Nat → Spot} (h : RM w g M) (hf : Fr F w w') (hg : ¬ F g) : RM w' g M := by
  obtain ⟨C, hC, r⟩ := h
  exact ⟨C, hf.obj hC hg, r⟩
theorem RM.cells {w : World} {g : Nat} {M : Nat → Spot} (h : RM w g M) {i : Nat} (hi : i < 256) :
    w.cell? ⟨g, i * 4, none⟩ = some (.int .i64 (M i).seg) ∧ w.cell? ⟨g, i * 4 + 1, none⟩ = some (.int .i64 (M i).frm) ∧ w.cell? ⟨g, i * 4 + 2, none⟩ = some (.int .i64 (M i).len) ∧ w.cell? ⟨g, i * 4 + 3, none⟩ = some (.int .i64 (M i).ver) := by
  obtain ⟨C, hC, _, r⟩ := h
  obtain ⟨a, b, c, d⟩ := r i hi
  exact ⟨(obj_cell hC _).trans a, (obj_cell hC _).trans b, (obj_cell hC _).trans c, (obj_cell hC _).trans d⟩
theorem RM.thaw {w : World} {g : Nat} {M : Nat → Spot} (h : RM w g M) (j : Nat) : w.frozen? ⟨g, j, none⟩ = false := by
  obtain ⟨C, hC, _⟩ := h
  exact obj_frozen hC j
theorem RM.set {w : World} {g : Nat} {M : Nat → Spot} (h : RM w g M) {i : Nat} (hi : i < 256) (x : Spot) :
    RM ((((w.setCell ⟨g, i * 4, none⟩ (.int .i64 x.seg)).setCell ⟨g, i * 4 + 1, none⟩ (.int .i64 x.frm)).setCell ⟨g, i * 4 + 2, none⟩ (.int .i64 x.len)).setCell ⟨g, i * 4 + 3, none⟩ (.int .i64 x.ver)) g (upd M i x) := by
  obtain ⟨C, hC, r⟩ := h
  exact ⟨_, obj_set (obj_set (obj_set (obj_set hC _ _) _ _) _ _) _ _, r.set hi x⟩
theorem spot_thereR {w : World} {g : Nat} {M : Nat → Spot} (h : RM w g M) {k : Nat} (hk : k < 256) : w.there g (k * 4) 4 := by
  intro j hj
  obtain ⟨a, b, c, d⟩ := h.cells hk
  refine ⟨?_, h.thaw _⟩
  match j, hj with
  | 0, _ => rw [Nat.add_zero, a]; rfl
  | 1, _ => rw [b]; rfl
  | 2, _ => rw [c]; rfl
  | 3, _ => rw [d]; rfl
theorem wpList_spotR {ops : Array Oper} {rest : List Oper} {o : Oper} {a : Act} {w : World} {Q : Exit → Act → World → Prop} (hgd : o.guard = none) (x y : Operand) (ho : o.op = .store 27 x y)
    {g : Nat} {M : Nat → Spot} (h : RM w g M) {k : Nat} (hk : k < 256) (s : Spot) (hx : a.eval x = .pointer (some ⟨g, k * 4, none⟩)) (hy : a.eval y = .agg #[.int .i64 s.seg, .int .i64 s.frm, .int .i64 s.len, .int .i64 s.ver])
    (hK : ∀ w3, RM w3 g (upd M k s) → Fr (fun j => j = g) w w3 → wpList Try.prog ops Q rest (a.put o.dst undef) w3) : wpList Try.prog ops Q (o :: rest) a w :=
  wpList_store_mid hgd 27 x y ho g (k * 4) _ hx hy (spot_thereR h hk) info27 (all_oneCell_toArray (cs := [.int .i64 s.seg, .int .i64 s.frm, .int .i64 s.len, .int .i64 s.ver]) (fun v hv => by
    simp only [List.mem_cons, List.not_mem_nil, or_false] at hv
    rcases hv with rfl | rfl | rfl | rfl <;> rfl))
    (hK _ (h.set hk s) (((((Fr.refl (fun j => j = g) w).setCell (p := ⟨g, k * 4, none⟩) (fun _ => rfl) _).setCell (p := ⟨g, k * 4 + 1, none⟩) (fun _ => rfl) _).setCell (p := ⟨g, k * 4 + 2, none⟩) (fun _ => rfl) _).setCell (p := ⟨g, k * 4 + 3, none⟩) (fun _ => rfl) _))
/-- A load of whatever, by its run. -/
theorem wpList_loadv {P : Program} {ops : Array Oper} {rest : List Oper} {o : Oper} {a : Act} {w : World} {Q : Exit → Act → World → Prop} (hgd : o.guard = none) (ty : TypeId) (x : Operand) (ho : o.op = .load ty x) {p v : Value} (hx : a.eval x = p)
    (hrun : (Instr.loadAt ty p).run P w = .ok v w) (h : wpList P ops Q rest (a.put o.dst v) w) : wpList P ops Q (o :: rest) a w :=
  wpList_plain hgd fun _ hK => by
    unfold Oper.wp execOp
    simp only [ho, hx, Sem.run_bind, hrun, Result.andThen_ok, Sem.run_pure]
    exact hK _ _ h
/-- A store of whatever, by its run. -/
theorem wpList_storev {P : Program} {ops : Array Oper} {rest : List Oper} {o : Oper} {a : Act} {w w' : World} {Q : Exit → Act → World → Prop} (hgd : o.guard = none) (ty : TypeId) (x y : Operand) (ho : o.op = .store ty x y) {p v : Value} (hx : a.eval x = p) (hy : a.eval y = v)
    (hrun : (Instr.storeAt ty p v).run P w = .ok () w') (h : wpList P ops Q rest (a.put o.dst undef) w') : wpList P ops Q (o :: rest) a w :=
  wpList_plain hgd fun _ hK => by
    unfold Oper.wp execOp
    simp only [ho, hx, hy, Sem.run_bind, hrun, Result.andThen_ok, Sem.run_pure]
    exact hK _ _ h
theorem setRow_fr (W : World) (g : Nat) (C' : Array Value) : Fr (fun j => j = g) W (W.setRow g C') :=
  ⟨rfl, rfl, rfl, by rw [setRow_size]; exact Nat.le_refl _, fun _ _ hk => setRow_far hk⟩
/-- A whole map, stored. -/
theorem wpList_storeR {ops : Array Oper} {rest : List Oper} {o : Oper} {a : Act} {w : World} {Q : Exit → Act → World → Prop} (hgd : o.guard = none) (x y : Operand) (ho : o.op = .store 30 x y)
    {g : Nat} {M : Nat → Spot} (h : RM w g M) {C' : Array Value} {M' : Nat → Spot} (r : Rep C' M') (hx : a.eval x = .pointer (some ⟨g, 0, none⟩)) (hy : a.eval y = .agg C')
    (hK : ∀ w3, w3.heap[g]? = some (.cells C' 30 (0, 0)) → Fr (fun j => j = g) w w3 → wpList Try.prog ops Q rest (a.put o.dst undef) w3) : wpList Try.prog ops Q (o :: rest) a w := by
  obtain ⟨C, hC, rC⟩ := h
  exact wpList_storev hgd 30 x y ho hx hy (store30 r rC.1 hC) (hK _ (setRow_at hC) (setRow_fr _ _ _))
/-- A whole map, loaded. -/
theorem wpList_loadR {ops : Array Oper} {rest : List Oper} {o : Oper} {a : Act} {w : World} {Q : Exit → Act → World → Prop} (hgd : o.guard = none) (x : Operand) (ho : o.op = .load 30 x)
    {g : Nat} {M : Nat → Spot} (h : RM w g M) (hx : a.eval x = .pointer (some ⟨g, 0, none⟩))
    (hK : ∀ C, Rep C M → w.heap[g]? = some (.cells C 30 (0, 0)) → wpList Try.prog ops Q rest (a.put o.dst (.agg C)) w) : wpList Try.prog ops Q (o :: rest) a w := by
  obtain ⟨C, hC, rC⟩ := h
  exact wpList_loadv hgd 30 x ho hx (load30 rC hC) (hK C rC hC)
theorem rm_new {C : Array Value} {M : Nat → Spot} (r : Rep C M) (w : World) : RM (w.alloc (.cells C 30)) w.heap.size M := ⟨C, obj_new _ _, r⟩
set_option maxHeartbeats 2000000 in
set_option maxRecDepth 100000 in
theorem rget_any (C : Array Value) (M : Nat → Spot) (r : Rep C M) (i : Int) (w : World) :
    Calls Try.prog 27 #[.agg C, .int .i64 i] w fun e w' => e = .returned (.tuple #[.agg #[.int .i64 (gtOut M i).1.seg, .int .i64 (gtOut M i).1.frm, .int .i64 (gtOut M i).1.len, .int .i64 (gtOut M i).1.ver], .bool (gtOut M i).2]) ∧ Below w.heap.size w w' := by
  have hB0 : Below w.heap.size w (w.alloc (.cells C 30)) := (Below.refl _ _).alloc (Nat.le_refl _) _
  have H := hide ((rm_new r w).below ((Below.refl _ _).alloc (Nat.le_refl _) (.cells #[.int .i64 0, .int .i64 0, .int .i64 0, .int .i64 0] 27)))
  have HB := hide hB0
  clear hB0
  have hsz : (w.alloc (.cells C 30)).heap.size = w.heap.size + 1 := by simp
  by_cases h0 : mayI i
  · obtain ⟨k, rfl⟩ : ∃ k : Nat, i = k := ⟨i.toNat, by have := h0.1; omega⟩
    have hk : k < 256 := by have := h0.2; omega
    obtain ⟨a, b, c, d⟩ := H.out.cells hk
    by_cases h1 : (M k).ver = 0
    · rw [show gtOut M k = (noSpot, false) from if_pos (.inr (by rw [Int.toNat_natCast]; exact h1))]
      rw [h1] at d
      clear a b c
      go_enter Try.func27, Try.ntmps27
      go_wp2_with fail
      refine (rmay_any _ _).mono ?_
      rintro e w1 ⟨rfl, rfl⟩
      rw [decide_eq_true h0]
      clear h0 h1
      go_wp2
      refine bodyPost_ret (res_ct rfl _ _ (w.heap.size + 1) 27 _ (0, 0) _ rfl (heap_alloc2_new w _ _) Try.underlying27 rfl info27) rfl ⟨rfl, HB.out.alloc HB.out.size _⟩
    · have h1' : ((M k).ver == 0) = false := by simp [h1]
      rw [show gtOut M k = (M k, true) from by unfold gtOut; rw [if_neg (by rw [Int.toNat_natCast]; simp [h0, h1]), Int.toNat_natCast]]
      go_enter Try.func27, Try.ntmps27
      go_wp2_with fail
      refine (rmay_any _ _).mono ?_
      rintro e w1 ⟨rfl, rfl⟩
      rw [decide_eq_true h0]
      clear h0 h1
      go_wp2
      refine bodyPost_ret (res_ct rfl _ _ (w.heap.size + 1) 27 _ (0, 0) _ rfl (heap_alloc2_new w _ _) Try.underlying27 rfl info27) rfl ⟨rfl, HB.out.alloc HB.out.size _⟩
  · rw [show gtOut M i = (noSpot, false) from if_pos (.inl h0)]
    go_enter Try.func27, Try.ntmps27
    go_wp2_with fail
    refine (rmay_any _ _).mono ?_
    rintro e w1 ⟨rfl, rfl⟩
    rw [decide_eq_false h0]
    go_wp2
    refine bodyPost_ret (res_ct rfl _ _ (w.heap.size + 1) 27 _ (0, 0) _ rfl (heap_alloc2_new w _ _) Try.underlying27 rfl info27) rfl ⟨rfl, HB.out.alloc HB.out.size _⟩
def FreeR (M : Nat → Spot) (i : Value) : Prop := ∃ k : Nat, i = .int .i64 k ∧ 2 ≤ k ∧ k ≤ 256 ∧ ∀ j, 2 ≤ j → j < k → (M j).ver ≠ 0
set_option maxHeartbeats 2000000 in
set_option maxRecDepth 100000 in
theorem rfree_any (C : Array Value) (M : Nat → Spot) (r : Rep C M) (w : World) : Calls Try.prog 36 #[.agg C] w fun e W' => (∃ r : Nat, FreeN M r ∧ e = .returned (.int .i64 (r : Int))) ∧ Below w.heap.size w W' := by
  have H := hide (rm_new r w)
  have HB := hide ((Below.refl w.heap.size w).alloc (Nat.le_refl _) (.cells C 30))
  have HS : Hid (FreeR M (.int .i64 2)) := hide ⟨2, rfl, by decide, by decide, fun j h1 h2 => by omega⟩
  go_enter Try.func36, Try.ntmps36
  go_wp2_with fail
  go_loopw [3] (fun i wr => FreeR M i ∧ wr = w.alloc (.cells C 30)) (fun i _ => 256 - (intOf i).toNat)
  case atStart => exact ⟨HS.out, rfl⟩
  case round =>
    obtain ⟨⟨k, rfl, hk2, hk, hq⟩, rfl⟩ := hrel
    have HQ := hide hq
    clear hq
    rcases Nat.lt_or_ge k 256 with hlt | hge
    · obtain ⟨-, -, -, d⟩ := H.out.cells hlt
      by_cases h0 : (M k).ver = 0
      · have HF : Hid (FreeN M k) := hide (.inr ⟨hk2, hlt, h0, HQ.out⟩)
        rw [h0] at d
        clear h0
        go_wp2
        go_ret
        exact ⟨⟨k, HF.out, rfl⟩, HB.out⟩
      · have h0' : ((M k).ver == 0) = false := by simp [h0]
        have HS2 : Hid (FreeR M (.int .i64 ((k + 1 : Nat) : Int))) := hide ⟨k + 1, rfl, by omega, by omega, fun j h1 h2 => by
          rcases Nat.lt_or_ge j k with h3 | h3
          · exact HQ.out j h1 h3
          · obtain rfl : j = k := by omega
            exact h0⟩
        clear h0
        go_wp2
        go_roundw
        case rel => exact ⟨HS2.out, trivial⟩
        case measure => simp [intOf]; omega
    · obtain rfl : k = 256 := by omega
      have HF : Hid (FreeN M 0) := hide (.inl ⟨rfl, HQ.out⟩)
      go_wp2
      go_ret
      exact ⟨⟨0, HF.out, rfl⟩, HB.out⟩
def LiveS (M : Nat → Spot) (s : Int) (nv iv : Value) : Prop := ∃ k : Nat, iv = .int .i64 k ∧ 1 ≤ k ∧ k ≤ 256 ∧ nv = .int .i64 (liveW s (entUp M k))
set_option maxHeartbeats 2000000 in
set_option maxRecDepth 100000 in
theorem rlive_any (C : Array Value) (M : Nat → Spot) (r : Rep C M) (h00 : (M 0).ver = 0) (s : Int) (w : World) : Calls Try.prog 34 #[.agg C, .int .i64 s] w fun e W' => e = .returned (.int .i64 (liveW s (entUp M 256))) ∧ Below w.heap.size w W' := by
  have H := hide (rm_new r w)
  have HB := hide ((Below.refl w.heap.size w).alloc (Nat.le_refl _) (.cells C 30))
  have HS : Hid (LiveS M s (.int .i64 0) (.int .i64 1)) := hide ⟨1, rfl, by decide, by decide, by rw [entUp_miss M (by rw [h00]; decide)]; rfl⟩
  go_enter Try.func34, Try.ntmps34
  go_wp2_with fail
  go_loopw [5, 6] (fun nv iv wr => LiveS M s nv iv ∧ wr = w.alloc (.cells C 30)) (fun _ i _ => 256 - (intOf i).toNat)
  case atStart => exact ⟨HS.out, rfl⟩
  case round =>
    obtain ⟨⟨k, rfl, hk1, hk, rfl⟩, rfl⟩ := hrel
    rcases Nat.lt_or_ge k 256 with hlt | hge
    · obtain ⟨a, -, c, d⟩ := H.out.cells hlt
      by_cases h0 : 0 < (M k).ver
      · by_cases h1 : (M k).seg = s
        · have HS2 : Hid (LiveS M s (.int .i64 (wrap64 (liveW s (entUp M k) + (M k).len))) (.int .i64 ((k + 1 : Nat) : Int))) := hide ⟨k + 1, rfl, by omega, by omega, by rw [entUp_hit M h0, liveW_snoc, if_pos h1]⟩
          rw [h1] at a
          clear h1
          generalize liveW s (entUp M k) = n at HS2 ⊢
          go_wp2
          go_roundw
          case rel => exact ⟨HS2.out, trivial⟩
          case measure => simp [intOf]; omega
        · have h1' : ((M k).seg == s) = false := by simp [h1]
          have HS2 : Hid (LiveS M s (.int .i64 (liveW s (entUp M k))) (.int .i64 ((k + 1 : Nat) : Int))) := hide ⟨k + 1, rfl, by omega, by omega, by rw [entUp_hit M h0, liveW_snoc, if_neg h1]⟩
          clear h1
          generalize liveW s (entUp M k) = n at HS2 ⊢
          go_wp2
          go_roundw
          case rel => exact ⟨HS2.out, trivial⟩
          case measure => simp [intOf]; omega
      · have HS2 : Hid (LiveS M s (.int .i64 (liveW s (entUp M k))) (.int .i64 ((k + 1 : Nat) : Int))) := hide ⟨k + 1, rfl, by omega, by omega, by rw [entUp_miss M h0]⟩
        generalize liveW s (entUp M k) = n at HS2 ⊢
        go_wp2
        go_roundw
        case rel => exact ⟨HS2.out, trivial⟩
        case measure => simp [intOf]; omega
    · obtain rfl : k = 256 := by omega
      go_wp2
      go_ret
      exact ⟨rfl, HB.out⟩
end Go.Proofs.Ytljmaicobafgkaa
end
