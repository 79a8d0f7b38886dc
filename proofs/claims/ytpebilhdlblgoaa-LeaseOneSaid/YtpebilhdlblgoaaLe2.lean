/- Chapter 27, lease: Grant, where it may. -/
import Derived.Test.YtpebilhdlblgoaaLe1
namespace Go.Proofs.Ytpebilhdlblgoaa
open Go.RowKit

theorem wpList_mapupL {P : Program} {ops : Array Oper} {rest : List Oper} {o : Oper} {a : Act} {w w' : World} {Q : Exit → Act → World → Prop} (hgd : o.guard = none) (t : TypeId) (m k v : Operand)
    (ho : o.op = .mapUpdate t m k v) {vm vk vv : Value} (hm : a.eval m = vm) (hk : a.eval k = vk) (hv : a.eval v = vv)
    (hrun : (Instr.mapUpdate t vm vk vv).run P w = .ok () w') (h : wpList P ops Q rest (a.put o.dst undef) w') : wpList P ops Q (o :: rest) a w :=
  wpList_plain hgd fun _ hK => by
    unfold Oper.wp execOp
    simp only [ho, hm, hk, hv, Sem.run_bind, hrun, Result.andThen_ok, Sem.run_pure]
    exact hK _ _ h
def oldL (S : Les) (i : Int) : Lse := (S.f i).getD noL
/-- A lease is laid: what the tail of Grant needs. -/
theorem lput {W : World} {g c : Nat} {S : Les} (h : LV W g c S) (i : Int) (y : Lse) {b0 b1 : Nat} {o0 o1 : Array Value} (h0 : W.heap[b0]? = some (.cells o0 30 (0, 0))) (h1 : W.heap[b1]? = some (.cells o1 30 (0, 0))) :
    ∃ W5, (Instr.mapUpdate 60 (.map (some c)) (.int .i64 i) (.agg #[.int .i64 y.ino, .int .i64 y.cli, .int .i64 y.til, .int .i64 y.tok])).run Try.prog W = .ok () W5 ∧ LV W5 g c ⟨upm S.f i (some y), S.tok⟩ ∧ Fr (fun j => j = c) W W5 ∧ W5.heap[b0]? = some (.cells o0 30 (0, 0)) ∧ W5.heap[b1]? = some (.cells o1 30 (0, 0)) := by
  obtain ⟨W5, hr, hm, hf, hs⟩ := MK.run_put h.2 i y
  have hne : ∀ b o, W.heap[b]? = some (.cells o 30 (0, 0)) → b ≠ c := fun b o hb e => by
    obtain ⟨es, k, h3⟩ := MK.mp_obj h.2
    rw [e, h3] at hb
    cases hb
  exact ⟨W5, hr, ⟨hf.obj h.1 h.gc, hm⟩, hf, hf.obj h0 (hne _ _ h0), hf.obj h1 (hne _ _ h1)⟩
set_option maxHeartbeats 8000000 in
set_option maxRecDepth 100000 in
theorem grant_new {w : World} {g c : Nat} {S : Les} (h : LV w g c S) (i cl nw tk : Int) (hb : ¬ badG i cl nw tk) (x : Lse) (hx : oldL S i = x) (ht : x.til ≤ nw) (ht0 : 0 ≤ S.tok) (ht1 : S.tok ≤ 1099511627776) :
    Calls Try.prog 12 #[.pointer (some ⟨g, 0, none⟩), .int .i64 i, .int .i64 cl, .int .i64 nw, .int .i64 tk] w fun e w' => e = .returned (.tuple #[.agg #[.int .i64 i, .int .i64 cl, .int .i64 (nw + tk), .int .i64 (S.tok + 1)], .int .i64 0]) ∧ LV w' g c ⟨upm S.f i (some ⟨i, cl, nw + tk, S.tok + 1⟩), S.tok + 1⟩ ∧ Fr (fun j => j = g ∨ j = c) w w' := by
  unfold badG at hb
  have b0 : ¬ i < 1 := by omega
  have b1 : ¬ 256 ≤ i := by omega
  have b2 : ¬ cl < 0 := by omega
  have b3 : ¬ 16 ≤ cl := by omega
  have b4 : ¬ nw < 0 := by omega
  have b5 : ¬ 1099511627776 < nw := by omega
  have b6 : ¬ tk < 1 := by omega
  have b7 : ¬ 1000000 < tk := by omega
  have z0 := obj_cell h.1 0
  have z1 := obj_cell h.1 1
  have t1 := obj_frozen h.1 1
  simp only [List.getElem?_toArray, List.getElem?_cons_zero, List.getElem?_cons_succ] at z0 z1
  obtain ⟨W1, hW1⟩ : ∃ W1, W1 = w.alloc (.cells #[.int .i64 0, .int .i64 0, .int .i64 0, .int .i64 0] 30) := ⟨_, rfl⟩
  have hbW : Below w.heap.size w W1 := by rw [hW1]; exact (Below.refl _ _).alloc (Nat.le_refl _) _
  have hlt := h.lt
  have h1 := h.below hbW
  have hlk : (Instr.lookup 60 (.map (some c)) (.int .i64 i) false).run Try.prog W1 = .ok (.agg #[.int .i64 x.ino, .int .i64 x.cli, .int .i64 x.til, .int .i64 x.tok]) W1 := by
    have := MK.run_look h1.2 i
    refine this.trans ?_
    rw [← hx]
    unfold oldL
    cases S.f i <;> rfl
  rw [hW1] at hlk
  have HV := hide h
  clear h hb h1 hbW hW1 hx
  obtain ⟨xi, xc, xt, xk⟩ := x
  simp only at ht hlk ⊢
  obtain ⟨W3, hW3⟩ : ∃ W3, W3 = ((w.setCell ⟨g, 1, none⟩ (.int .i64 (S.tok + 1))).alloc (.cells #[.int .i64 0, .int .i64 0, .int .i64 0, .int .i64 0] 30)).alloc (.cells #[.int .i64 i, .int .i64 cl, .int .i64 (nw + tk), .int .i64 (S.tok + 1)] 30) := ⟨_, rfl⟩
  have hs1 : (w.setCell ⟨g, 1, none⟩ (.int .i64 (S.tok + 1))).heap.size = w.heap.size := by simp
  have hs2 : ((w.setCell ⟨g, 1, none⟩ (.int .i64 (S.tok + 1))).alloc (.cells #[.int .i64 0, .int .i64 0, .int .i64 0, .int .i64 0] 30)).heap.size = w.heap.size + 1 := by simp
  have hf3 : Fr (fun j => j = g ∨ j = c) w W3 := by
    rw [hW3]
    exact (((Fr.refl (fun j => j = g ∨ j = c) w).setCell (p := ⟨g, 1, none⟩) (fun _ => .inl rfl) (.int .i64 (S.tok + 1))).alloc _).alloc _
  have hr3 : W3.heap[w.heap.size]? = some (.cells #[.int .i64 0, .int .i64 0, .int .i64 0, .int .i64 0] 30 (0, 0)) := by
    rw [hW3]
    have := obj_alloc (obj_new (w.setCell ⟨g, 1, none⟩ (.int .i64 (S.tok + 1))) (.cells #[.int .i64 0, .int .i64 0, .int .i64 0, .int .i64 0] 30)) (.cells #[.int .i64 i, .int .i64 cl, .int .i64 (nw + tk), .int .i64 (S.tok + 1)] 30)
    rw [hs1] at this
    exact this
  have hx3 : W3.heap[w.heap.size + 1]? = some (.cells #[.int .i64 i, .int .i64 cl, .int .i64 (nw + tk), .int .i64 (S.tok + 1)] 30 (0, 0)) := by
    rw [hW3]
    have := obj_new ((w.setCell ⟨g, 1, none⟩ (.int .i64 (S.tok + 1))).alloc (.cells #[.int .i64 0, .int .i64 0, .int .i64 0, .int .i64 0] 30)) (.cells #[.int .i64 i, .int .i64 cl, .int .i64 (nw + tk), .int .i64 (S.tok + 1)] 30)
    rw [hs2] at this
    exact this
  have hv3 : LV W3 g c ⟨S.f, S.tok + 1⟩ := by
    rw [hW3]
    exact ⟨obj_alloc (obj_alloc (obj_set HV.out.1 1 _) _) _, MK.mp_below (MK.mp_below (MK.mp_fr HV.out.2 ((Fr.refl (fun j => j = g) w).setCell (p := ⟨g, 1, none⟩) (fun _ => rfl) _) (fun e => HV.out.gc e.symm)) ((Below.refl _ _).alloc (Nat.le_refl _) _)) ((Below.refl _ _).alloc (Nat.le_refl _) _)⟩
  obtain ⟨W5, hup, hv5, hf5, hr5, hx5⟩ := lput (show LV W3.drew g c ⟨S.f, S.tok + 1⟩ from hv3) i ⟨i, cl, nw + tk, S.tok + 1⟩ hr3 hx3
  have HF5 := hide ((hf3.drew).trans hf5 (fun _ _ e => .inr e))
  have HUP := hide hup
  have HV5 := hide hv5
  have HR5 := hide hr5
  have w0 := obj_cell hv3.1 0
  simp only [List.getElem?_toArray, List.getElem?_cons_zero] at w0
  have x0 := obj_cell hx5 0
  have x1 := obj_cell hx5 1
  have x2 := obj_cell hx5 2
  have x3 := obj_cell hx5 3
  have y0 := obj_cell hx3 0
  have y1 := obj_cell hx3 1
  have y2 := obj_cell hx3 2
  have y3 := obj_cell hx3 3
  have r0 := obj_cell hr5 0
  have r1 := obj_cell hr5 1
  have r2 := obj_cell hr5 2
  have r3 := obj_cell hr5 3
  have s0 := obj_frozen hr5 0
  have s1 := obj_frozen hr5 1
  have s2 := obj_frozen hr5 2
  have s3 := obj_frozen hr5 3
  simp only [List.getElem?_toArray, List.getElem?_cons_zero, List.getElem?_cons_succ] at x0 x1 x2 x3 y0 y1 y2 y3 r0 r1 r2 r3
  have HWB := hide hlt
  go_enter Try.func12, Try.ntmps12
  go_wp2_with fail
  rw [← hW3]
  clear hW3 hs1 hs2 hf3 hr3 hx3 hv3 hup hf5 hr5 hx5 hlk z0 z1 t1
  refine wp_stl 6 (by kernel_rfl) (by kernel_rfl) ?_
  simp only [List.take_succ_cons, List.take_zero, List.drop_succ_cons, List.drop_zero]
  repeat still_step
  refine wpStill_nil ?_
  refine wpList_mapupL rfl 60 (.tmp 92) (.tmp 93) (.tmp 94) rfl rfl rfl rfl HUP.out ?_
  clear w0 y0 y1 y2 y3
  go_wp2
  refine bodyPost_ret (res_ct rfl _ _ w.heap.size 30 _ (0, 0) _ rfl (obj_set (obj_set (obj_set (obj_set HR5.out 0 _) 1 _) 2 _) 3 _) Try.underlying30 rfl info30) rfl ?_
  have hgb := HWB.out
  refine ⟨rfl, ?_, ?_⟩
  · have hff := ((((Fr.refl (fun j => j = w.heap.size) W5).setCell (p := ⟨w.heap.size, 0, none⟩) (fun _ => rfl) (.int .i64 i)).setCell (p := ⟨w.heap.size, 1, none⟩) (fun _ => rfl) (.int .i64 cl)).setCell (p := ⟨w.heap.size, 2, none⟩) (fun _ => rfl) (.int .i64 (nw + tk))).setCell (p := ⟨w.heap.size, 3, none⟩) (fun _ => rfl) (.int .i64 (S.tok + 1))
    exact ⟨hff.obj HV5.out.1 (by omega), MK.mp_fr HV5.out.2 hff (by omega)⟩
  · exact ((((HF5.out).setCell (p := ⟨w.heap.size, 0, none⟩) (fun h => absurd h (Nat.lt_irrefl _)) _).setCell (p := ⟨w.heap.size, 1, none⟩) (fun h => absurd h (Nat.lt_irrefl _)) _).setCell (p := ⟨w.heap.size, 2, none⟩) (fun h => absurd h (Nat.lt_irrefl _)) _).setCell (p := ⟨w.heap.size, 3, none⟩) (fun h => absurd h (Nat.lt_irrefl _)) _
set_option maxHeartbeats 8000000 in
set_option maxRecDepth 100000 in
theorem grant_renew {w : World} {g c : Nat} {S : Les} (h : LV w g c S) (i cl nw tk : Int) (hb : ¬ badG i cl nw tk) (x : Lse) (hx : oldL S i = x) (ht : ¬ x.til ≤ nw) (hc : x.cli = cl) (M : Int) (hM : M = if nw + tk > x.til then nw + tk else x.til) :
    Calls Try.prog 12 #[.pointer (some ⟨g, 0, none⟩), .int .i64 i, .int .i64 cl, .int .i64 nw, .int .i64 tk] w fun e w' => e = .returned (.tuple #[.agg #[.int .i64 x.ino, .int .i64 x.cli, .int .i64 M, .int .i64 x.tok], .int .i64 0]) ∧ LV w' g c ⟨upm S.f i (some ⟨x.ino, x.cli, M, x.tok⟩), S.tok⟩ ∧ Fr (fun j => j = g ∨ j = c) w w' := by
  unfold badG at hb
  have b0 : ¬ i < 1 := by omega
  have b1 : ¬ 256 ≤ i := by omega
  have b2 : ¬ cl < 0 := by omega
  have b3 : ¬ 16 ≤ cl := by omega
  have b4 : ¬ nw < 0 := by omega
  have b5 : ¬ 1099511627776 < nw := by omega
  have b6 : ¬ tk < 1 := by omega
  have b7 : ¬ 1000000 < tk := by omega
  have z0 := obj_cell h.1 0
  have z1 := obj_cell h.1 1
  have t1 := obj_frozen h.1 1
  simp only [List.getElem?_toArray, List.getElem?_cons_zero, List.getElem?_cons_succ] at z0 z1
  obtain ⟨W1, hW1⟩ : ∃ W1, W1 = w.alloc (.cells #[.int .i64 0, .int .i64 0, .int .i64 0, .int .i64 0] 30) := ⟨_, rfl⟩
  have hbW : Below w.heap.size w W1 := by rw [hW1]; exact (Below.refl _ _).alloc (Nat.le_refl _) _
  have hlt := h.lt
  have h1 := h.below hbW
  have hlk : (Instr.lookup 60 (.map (some c)) (.int .i64 i) false).run Try.prog W1 = .ok (.agg #[.int .i64 x.ino, .int .i64 x.cli, .int .i64 x.til, .int .i64 x.tok]) W1 := by
    have := MK.run_look h1.2 i
    refine this.trans ?_
    rw [← hx]
    unfold oldL
    cases S.f i <;> rfl
  rw [hW1] at hlk
  have HV := hide h
  clear h hb h1 hbW hW1 hx
  obtain ⟨xi, xc, xt, xk⟩ := x
  simp only at ht hc hM hlk ⊢
  have hcne : (xc != cl) = false := by simp [hc]
  have hmx : ∀ (ts : Array TypeId) (t : TypeId) (W : World), (Builtin.max_ ts t #[.int .i64 xt, .int .i64 (nw + tk)]).run Try.prog W = .ok (.int .i64 M) W := fun ts t W => by rw [run_max_int2, hM]
  have HM := hide hM
  clear hM hc
  obtain ⟨W3, hW3⟩ : ∃ W3, W3 = ((w).alloc (.cells #[.int .i64 0, .int .i64 0, .int .i64 0, .int .i64 0] 30)).alloc (.cells #[.int .i64 xi, .int .i64 xc, .int .i64 M, .int .i64 xk] 30) := ⟨_, rfl⟩
  have hs1 : (w).heap.size = w.heap.size := by simp
  have hs2 : ((w).alloc (.cells #[.int .i64 0, .int .i64 0, .int .i64 0, .int .i64 0] 30)).heap.size = w.heap.size + 1 := by simp
  have hf3 : Fr (fun j => j = g ∨ j = c) w W3 := by
    rw [hW3]
    exact ((Fr.refl (fun j => j = g ∨ j = c) w).alloc _).alloc _
  have hr3 : W3.heap[w.heap.size]? = some (.cells #[.int .i64 0, .int .i64 0, .int .i64 0, .int .i64 0] 30 (0, 0)) := by
    rw [hW3]
    have := obj_alloc (obj_new (w) (.cells #[.int .i64 0, .int .i64 0, .int .i64 0, .int .i64 0] 30)) (.cells #[.int .i64 xi, .int .i64 xc, .int .i64 M, .int .i64 xk] 30)
    rw [hs1] at this
    exact this
  have hx3 : W3.heap[w.heap.size + 1]? = some (.cells #[.int .i64 xi, .int .i64 xc, .int .i64 M, .int .i64 xk] 30 (0, 0)) := by
    rw [hW3]
    have := obj_new ((w).alloc (.cells #[.int .i64 0, .int .i64 0, .int .i64 0, .int .i64 0] 30)) (.cells #[.int .i64 xi, .int .i64 xc, .int .i64 M, .int .i64 xk] 30)
    rw [hs2] at this
    exact this
  have hv3 : LV W3 g c ⟨S.f, S.tok⟩ := by
    rw [hW3]
    exact (HV.out.below ((Below.refl _ _).alloc (Nat.le_refl _) _)).below ((Below.refl _ _).alloc (Nat.le_refl _) _)
  obtain ⟨W5, hup, hv5, hf5, hr5, hx5⟩ := lput (show LV W3.drew g c ⟨S.f, S.tok⟩ from hv3) i ⟨xi, xc, M, xk⟩ hr3 hx3
  have HF5 := hide ((hf3.drew).trans hf5 (fun _ _ e => .inr e))
  have HUP := hide hup
  have HV5 := hide hv5
  have HR5 := hide hr5
  have w0 := obj_cell hv3.1 0
  simp only [List.getElem?_toArray, List.getElem?_cons_zero] at w0
  have x0 := obj_cell hx5 0
  have x1 := obj_cell hx5 1
  have x2 := obj_cell hx5 2
  have x3 := obj_cell hx5 3
  have y0 := obj_cell hx3 0
  have y1 := obj_cell hx3 1
  have y2 := obj_cell hx3 2
  have y3 := obj_cell hx3 3
  have r0 := obj_cell hr5 0
  have r1 := obj_cell hr5 1
  have r2 := obj_cell hr5 2
  have r3 := obj_cell hr5 3
  have s0 := obj_frozen hr5 0
  have s1 := obj_frozen hr5 1
  have s2 := obj_frozen hr5 2
  have s3 := obj_frozen hr5 3
  simp only [List.getElem?_toArray, List.getElem?_cons_zero, List.getElem?_cons_succ] at x0 x1 x2 x3 y0 y1 y2 y3 r0 r1 r2 r3
  have HWB := hide hlt
  go_enter Try.func12, Try.ntmps12
  go_wp2_with fail
  rw [← hW3]
  clear hW3 hs1 hs2 hf3 hr3 hx3 hv3 hup hf5 hr5 hx5 hlk z0 z1 t1
  refine wp_stl 6 (by kernel_rfl) (by kernel_rfl) ?_
  simp only [List.take_succ_cons, List.take_zero, List.drop_succ_cons, List.drop_zero]
  repeat still_step
  refine wpStill_nil ?_
  refine wpList_mapupL rfl 60 (.tmp 92) (.tmp 93) (.tmp 94) rfl rfl rfl rfl HUP.out ?_
  clear w0 y0 y1 y2 y3
  go_wp2
  refine bodyPost_ret (res_ct rfl _ _ w.heap.size 30 _ (0, 0) _ rfl (obj_set (obj_set (obj_set (obj_set HR5.out 0 _) 1 _) 2 _) 3 _) Try.underlying30 rfl info30) rfl ?_
  have hgb := HWB.out
  refine ⟨rfl, ?_, ?_⟩
  · have hff := ((((Fr.refl (fun j => j = w.heap.size) W5).setCell (p := ⟨w.heap.size, 0, none⟩) (fun _ => rfl) (.int .i64 xi)).setCell (p := ⟨w.heap.size, 1, none⟩) (fun _ => rfl) (.int .i64 xc)).setCell (p := ⟨w.heap.size, 2, none⟩) (fun _ => rfl) (.int .i64 M)).setCell (p := ⟨w.heap.size, 3, none⟩) (fun _ => rfl) (.int .i64 xk)
    exact ⟨hff.obj HV5.out.1 (by omega), MK.mp_fr HV5.out.2 hff (by omega)⟩
  · exact ((((HF5.out).setCell (p := ⟨w.heap.size, 0, none⟩) (fun h => absurd h (Nat.lt_irrefl _)) _).setCell (p := ⟨w.heap.size, 1, none⟩) (fun h => absurd h (Nat.lt_irrefl _)) _).setCell (p := ⟨w.heap.size, 2, none⟩) (fun h => absurd h (Nat.lt_irrefl _)) _).setCell (p := ⟨w.heap.size, 3, none⟩) (fun h => absurd h (Nat.lt_irrefl _)) _
set_option maxHeartbeats 8000000 in
set_option maxRecDepth 100000 in
theorem grant_held {w : World} {g c : Nat} {S : Les} (h : LV w g c S) (i cl nw tk : Int) (hb : ¬ badG i cl nw tk) (x : Lse) (hx : oldL S i = x) (ht : ¬ x.til ≤ nw) (hc : x.cli ≠ cl) :
    Calls Try.prog 12 #[.pointer (some ⟨g, 0, none⟩), .int .i64 i, .int .i64 cl, .int .i64 nw, .int .i64 tk] w fun e w' => e = .returned (.tuple #[.agg noL.cells, .int .i64 11]) ∧ Below w.heap.size w w' := by
  unfold badG at hb
  have b0 : ¬ i < 1 := by omega
  have b1 : ¬ 256 ≤ i := by omega
  have b2 : ¬ cl < 0 := by omega
  have b3 : ¬ 16 ≤ cl := by omega
  have b4 : ¬ nw < 0 := by omega
  have b5 : ¬ 1099511627776 < nw := by omega
  have b6 : ¬ tk < 1 := by omega
  have b7 : ¬ 1000000 < tk := by omega
  have z0 := obj_cell h.1 0
  have z1 := obj_cell h.1 1
  have t1 := obj_frozen h.1 1
  simp only [List.getElem?_toArray, List.getElem?_cons_zero, List.getElem?_cons_succ] at z0 z1
  obtain ⟨W1, hW1⟩ : ∃ W1, W1 = w.alloc (.cells #[.int .i64 0, .int .i64 0, .int .i64 0, .int .i64 0] 30) := ⟨_, rfl⟩
  have hbW : Below w.heap.size w W1 := by rw [hW1]; exact (Below.refl _ _).alloc (Nat.le_refl _) _
  have hlt := h.lt
  have h1 := h.below hbW
  have hlk : (Instr.lookup 60 (.map (some c)) (.int .i64 i) false).run Try.prog W1 = .ok (.agg #[.int .i64 x.ino, .int .i64 x.cli, .int .i64 x.til, .int .i64 x.tok]) W1 := by
    have := MK.run_look h1.2 i
    refine this.trans ?_
    rw [← hx]
    unfold oldL
    cases S.f i <;> rfl
  rw [hW1] at hlk
  have HV := hide h
  clear h hb h1 hbW hW1 hx
  obtain ⟨xi, xc, xt, xk⟩ := x
  simp only at ht hc hlk
  have hcne : (xc != cl) = true := by simp [hc]
  have HO := hide (obj_alloc (obj_new w (.cells #[.int .i64 0, .int .i64 0, .int .i64 0, .int .i64 0] 30)) (.cells #[.int .i64 xi, .int .i64 xc, .int .i64 xt, .int .i64 xk] 30))
  have HB := hide ((((Below.refl w.heap.size w).alloc (Nat.le_refl _) (.cells #[.int .i64 0, .int .i64 0, .int .i64 0, .int .i64 0] 30)).alloc (by simp) (.cells #[.int .i64 xi, .int .i64 xc, .int .i64 xt, .int .i64 xk] 30)))
  clear hc t1 z1
  go_enter Try.func12, Try.ntmps12
  go_wp2
  refine bodyPost_ret (res_ct rfl _ _ w.heap.size 30 _ (0, 0) _ rfl HO.out Try.underlying30 rfl info30) rfl ?_
  exact ⟨rfl, HB.out⟩
end Go.Proofs.Ytpebilhdlblgoaa
