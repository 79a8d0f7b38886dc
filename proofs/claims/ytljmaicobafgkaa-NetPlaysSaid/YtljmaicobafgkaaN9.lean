/- A join of 2 texts of this claim: Nt9, Nt10. Conditions: none of their own. -/
import Derived.Test.YtljmaicobafgkaaN8
section
/- Chapter 13, net: Cut, Send. -/
namespace Go.Proofs.Ytljmaicobafgkaa
open Go.RowKit

section
variable {P : Program} {w : World}
theorem wp_mapup {o : Oper} {a : Act} {K : Act → World → Prop} {Q : Exit → Act → World → Prop} (t : TypeId) (m k v : Operand)
    (ho : o.op = .mapUpdate t m k v) {vm vk vv : Value} {w' : World} (hm : a.eval m = vm) (hk : a.eval k = vk) (hv : a.eval v = vv)
    (hrun : (Instr.mapUpdate t vm vk vv).run P w = .ok () w') (h : K (a.put o.dst undef) w') : Oper.wp P o a w K Q := by
  unfold Oper.wp execOp
  simp only [ho, hm, hk, hv, Sem.run_bind, hrun, Result.andThen_ok, Sem.run_pure]
  exact h
theorem wp_mapdel {o : Oper} {a : Act} {K : Act → World → Prop} {Q : Exit → Act → World → Prop} (s x : Operand) (t u : TypeId)
    (ho : o.op = .call { callee := .builtin .delete, args := #[s, x], argTypes := #[t, u] }) {vs vx v' : Value} {w' : World} (hs : a.eval s = vs) (hx : a.eval x = vx)
    (hrun : (Builtin.delete_ #[t, u] o.type #[vs, vx]).run P w = .ok v' w') (h : K (a.put o.dst v') w') : Oper.wp P o a w K Q := by
  unfold Oper.wp execOp
  simp only [ho, resolve, invoke, builtin, Sem.run_bind, Sem.run_pure, Result.andThen_ok, List.map_toArray, List.map_cons, List.map_nil, hs, hx, hrun]
  exact h
end
theorem NT.draw {w : World} {g c : Nat} {v : Value} {N : NetS} (h : NT w g v c N) : NT w.drew g v c N := h
def cutN (N : NetS) (a b : Int) (on : Bool) : NetS := ⟨N.n, N.way, fun q => if q = lnk a b then on else N.cuts q⟩
def CutS (w0 : World) (g c : Nat) (v : Value) (N N' : NetS) (d : Nat → Bool) (w : World) : Prop := (if d 7 = true then NT w g v c N' else NT w g v c N) ∧ Fr (fun j => j = c) w0 w
def cutA (g : Nat) (a b : Int) (u x : Nat → Value) : Act := ⟨#[.pointer (some ⟨g, 0, none⟩), .int .i64 a, .int .i64 b, u 3, u 4, u 5, u 6, u 7, u 8, u 9, u 10, u 11, u 12, u 13, u 14, u 15, u 16, u 17, u 18, u 19, x 0, x 1, x 2, x 3, x 4, x 5, x 6, u 27, u 28, u 29, u 30, u 31, u 32, u 33], []⟩
def cutV (g c : Nat) (a b : Int) (i : Nat) (v : Value) : Prop :=
  match i with
  | 0 => v = .pointer (some ⟨g, 0, none⟩)
  | 1 => v = .pointer (some ⟨g, 0, none⟩)
  | 2 => v = .pointer (some ⟨g, 2, none⟩)
  | 3 => v = .map (some c)
  | 4 => v = .int .i64 a
  | 5 => v = .int .i64 b
  | 6 => v = .agg #[.int .i64 (lnk a b).1, .int .i64 (lnk a b).2]
  | _ => True
def cutB (g : Nat) (a b : Int) (u x : Nat → Value) : Act := ⟨#[.pointer (some ⟨g, 0, none⟩), .int .i64 a, .int .i64 b, u 3, u 4, u 5, u 6, u 7, u 8, u 9, u 10, u 11, u 12, u 13, u 14, u 15, u 16, u 17, u 18, u 19, u 20, u 21, u 22, u 23, u 24, u 25, u 26, x 0, x 1, x 2, x 3, x 4, x 5, x 6], []⟩
def cutW (g c : Nat) (a b : Int) (i : Nat) (v : Value) : Prop :=
  match i with
  | 0 => v = .pointer (some ⟨g, 0, none⟩)
  | 1 => v = .pointer (some ⟨g, 0, none⟩)
  | 2 => v = .pointer (some ⟨g, 2, none⟩)
  | 3 => v = .map (some c)
  | 4 => v = .int .i64 a
  | 5 => v = .int .i64 b
  | 6 => v = .agg #[.int .i64 (lnk a b).1, .int .i64 (lnk a b).2]
  | _ => True
set_option maxHeartbeats 4000000 in
set_option maxRecDepth 100000 in
theorem cut_nil (a b : Int) (on : Bool) (w : World) : Calls Try.prog 72 #[.pointer none, .int .i64 a, .int .i64 b, .bool on] w fun e w' => e = .returned (.bool false) ∧ w' = w := by
  go_enter Try.func72, Try.ntmps72
  go_wp2_with fail
  refine (node_nil _ _).mono ?_
  rintro e w1 ⟨rfl, rfl⟩
  go_wp2
  go_ret
  exact ⟨rfl, rfl⟩
set_option maxHeartbeats 4000000 in
set_option maxRecDepth 100000 in
theorem cut_no {w : World} {g c : Nat} {v : Value} {N : NetS} (hN : NT w g v c N) (a b : Int) (on : Bool) (h : ¬ (nodeP N a ∧ nodeP N b)) : Calls Try.prog 72 #[.pointer (some ⟨g, 0, none⟩), .int .i64 a, .int .i64 b, .bool on] w fun e w' => e = .returned (.bool false) ∧ w' = w := by
  have HA := hide (node_any hN a)
  have HB := hide (node_any hN b)
  clear hN
  by_cases h1 : nodeP N a
  · have h2 : ¬ nodeP N b := fun h2 => h ⟨h1, h2⟩
    rw [decide_eq_true h1] at HA
    rw [decide_eq_false h2] at HB
    clear h h1 h2
    go_enter Try.func72, Try.ntmps72
    go_wp2_with fail
    refine HA.out.mono ?_
    rintro e w1 ⟨rfl, rfl⟩
    go_wp2_with fail
    refine HB.out.mono ?_
    rintro e w1 ⟨rfl, rfl⟩
    go_wp2
    go_ret
    exact ⟨rfl, rfl⟩
  · rw [decide_eq_false h1] at HA
    clear h h1
    go_enter Try.func72, Try.ntmps72
    go_wp2_with fail
    refine HA.out.mono ?_
    rintro e w1 ⟨rfl, rfl⟩
    go_wp2
    go_ret
    exact ⟨rfl, rfl⟩
set_option maxHeartbeats 4000000 in
set_option maxRecDepth 100000 in
theorem cut_any {w : World} {g c : Nat} {v : Value} {N : NetS} (hN : NT w g v c N) (a b : Int) (on : Bool) (h1 : nodeP N a) (h2 : nodeP N b) : Calls Try.prog 72 #[.pointer (some ⟨g, 0, none⟩), .int .i64 a, .int .i64 b, .bool on] w fun e w' =>
    e = .returned (.bool true) ∧ NT w' g v c (cutN N a b on) ∧ Fr (fun j => j = c) w w' := by
  have HA := hide (node_any hN a)
  have HB := hide (node_any hN b)
  rw [decide_eq_true h1] at HA
  rw [decide_eq_true h2] at HB
  have HN := hide hN
  clear hN h1 h2
  rcases on with _ | _
  · go_enter Try.func72, Try.ntmps72
    go_wp2_with fail
    refine HA.out.mono ?_
    rintro e w1 ⟨rfl, rfl⟩
    go_wp2_with fail
    refine HB.out.mono ?_
    rintro e w1 ⟨rfl, rfl⟩
    go_wp2_with fail
    refine wp_region_c (cutB g a b) (fun j => #[27, 28, 29, 30, 31, 32, 33, 0].getD j 0) (fun d _ w' => CutS _ g c v N (cutN N a b false) d w') (fun qi qv => cutW g c a b qi qv) (by kernel_rfl) (by kernel_rfl) rfl ⟨by rw [if_neg (by decide)]; exact HN.out.draw, (Fr.refl _ _).drew⟩ ?_ ?_ ?_
    · exact fun u => ⟨fun x v => rfl, fun x v => rfl, fun x v => rfl, fun x v => rfl, fun x v => rfl, fun x v => rfl, fun x v => rfl, fun x v => rfl, trivial⟩
    · refine fun u => ⟨?_, ?_, ?_, ?_, ?_, ?_, ?_, ?_, trivial⟩
      · intro d x w' hS hdi hv hp hcl K hK
        refine ⟨rfl, ?_⟩
        unfold cutB at hK ⊢
        go_wp2
        exact hK (.pointer (some ⟨g, 0, none⟩)) w' hS rfl
      · intro d x w' hS hdi hv hp hcl K hK
        have d0 : x 0 = .pointer (some ⟨g, 0, none⟩) := hv 0 (hp 0 (by kernel_rfl))
        have n7 : ¬ d 7 = true := fun e => by have := hcl 7 1 e (by kernel_rfl); rw [hdi] at this; cases this
        have hN := hS.1
        rw [if_neg n7] at hN
        have z := obj_cell hN.1 0
        refine ⟨rfl, ?_⟩
        unfold cutB at hK ⊢
        simp only [d0] at hK ⊢
        go_wp2
        exact hK (.pointer (some ⟨g, 0, none⟩)) w' hS rfl
      · intro d x w' hS hdi hv hp hcl K hK
        have d0 : x 1 = .pointer (some ⟨g, 0, none⟩) := hv 1 (hp 1 (by kernel_rfl))
        refine ⟨rfl, ?_⟩
        unfold cutB at hK ⊢
        simp only [d0] at hK ⊢
        go_wp2
        exact hK (.pointer (some ⟨g, 2, none⟩)) w' hS rfl
      · intro d x w' hS hdi hv hp hcl K hK
        have d0 : x 2 = .pointer (some ⟨g, 2, none⟩) := hv 2 (hp 2 (by kernel_rfl))
        have n7 : ¬ d 7 = true := fun e => by have := hcl 7 3 e (by kernel_rfl); rw [hdi] at this; cases this
        have hN := hS.1
        rw [if_neg n7] at hN
        have z := obj_cell hN.1 2
        simp only [List.getElem?_toArray, List.getElem?_cons_zero, List.getElem?_cons_succ] at z
        refine ⟨rfl, ?_⟩
        unfold cutB at hK ⊢
        simp only [d0] at hK ⊢
        go_wp2
        exact hK (.map (some c)) w' hS rfl
      · intro d x w' hS hdi hv hp hcl K hK
        refine ⟨rfl, ?_⟩
        unfold cutB at hK ⊢
        go_wp2
        exact hK (.int .i64 a) w' hS rfl
      · intro d x w' hS hdi hv hp hcl K hK
        refine ⟨rfl, ?_⟩
        unfold cutB at hK ⊢
        go_wp2
        exact hK (.int .i64 b) w' hS rfl
      · intro d x w' hS hdi hv hp hcl K hK
        have d0 : x 4 = .int .i64 a := hv 4 (hp 4 (by kernel_rfl))
        have d1 : x 5 = .int .i64 b := hv 5 (hp 5 (by kernel_rfl))
        have n7 : ¬ d 7 = true := fun e => by have := hcl 7 6 e (by kernel_rfl); rw [hdi] at this; cases this
        have hN := hS.1
        rw [if_neg n7] at hN
        refine ⟨rfl, ?_⟩
        unfold cutB at hK ⊢
        simp only [d0, d1] at hK ⊢
        go_wp2_with fail
        refine (between_any a b _).mono ?_
        rintro e w2 ⟨rfl, hb2⟩
        refine hK _ w2 ⟨?_, hS.2.then_below hb2⟩ rfl
        show if d 7 = true then _ else _
        rw [if_neg n7]
        exact hN.below hb2
      · intro d x w' hS hdi hv hp hcl K hK
        have d0 : x 3 = .map (some c) := hv 3 (hp 3 (by kernel_rfl))
        have d1 : x 6 = .agg #[.int .i64 (lnk a b).1, .int .i64 (lnk a b).2] := hv 6 (hp 6 (by kernel_rfl))
        have n7 : ¬ d 7 = true := by rw [hdi]; decide
        have hN := hS.1
        rw [if_neg n7] at hN
        refine ⟨rfl, ?_⟩
        unfold cutB at hK ⊢
        simp only [d0, d1] at hK ⊢
        obtain ⟨w2, hrun, hc2, hf2⟩ := mdelete_any hN.2.2 (lnk a b) 0
        refine wp_mapdel (.tmp 30) (.tmp 33) 206 211 rfl rfl rfl hrun ?_
        refine hK _ w2 ⟨?_, hS.2.trans hf2 (fun i _ e => e)⟩ trivial
        rw [if_pos (by simp)]
        exact ⟨hf2.obj hN.1 hN.map_ne, row_fr hN.2.1 hf2 (fun j e h => by subst h; exact hN.row_ne_map e), hc2⟩
    · intro u hu d x w' hS hd hv
      have h7 := hd 7 (by decide)
      have hN := hS.1
      rw [if_pos h7] at hN
      have HP := hide (show NT w' g v c (cutN N a b false) ∧ Fr (fun j => j = c) _ w' from ⟨hN, hS.2⟩)
      clear hN hS hd hu h7 hv
      unfold cutB
      go_wp2
      go_ret
      exact ⟨rfl, HP.out⟩
  · go_enter Try.func72, Try.ntmps72
    go_wp2_with fail
    refine HA.out.mono ?_
    rintro e w1 ⟨rfl, rfl⟩
    go_wp2_with fail
    refine HB.out.mono ?_
    rintro e w1 ⟨rfl, rfl⟩
    go_wp2_with fail
    refine wp_region_c (cutA g a b) (fun j => #[20, 21, 22, 23, 24, 25, 26, 0].getD j 0) (fun d _ w' => CutS _ g c v N (cutN N a b true) d w') (fun qi qv => cutV g c a b qi qv) (by kernel_rfl) (by kernel_rfl) rfl ⟨by rw [if_neg (by decide)]; exact HN.out.draw, (Fr.refl _ _).drew⟩ ?_ ?_ ?_
    · exact fun u => ⟨fun x v => rfl, fun x v => rfl, fun x v => rfl, fun x v => rfl, fun x v => rfl, fun x v => rfl, fun x v => rfl, fun x v => rfl, trivial⟩
    · refine fun u => ⟨?_, ?_, ?_, ?_, ?_, ?_, ?_, ?_, trivial⟩
      · intro d x w' hS hdi hv hp hcl K hK
        refine ⟨rfl, ?_⟩
        unfold cutA at hK ⊢
        go_wp2
        exact hK (.pointer (some ⟨g, 0, none⟩)) w' hS rfl
      · intro d x w' hS hdi hv hp hcl K hK
        have d0 : x 0 = .pointer (some ⟨g, 0, none⟩) := hv 0 (hp 0 (by kernel_rfl))
        have n7 : ¬ d 7 = true := fun e => by have := hcl 7 1 e (by kernel_rfl); rw [hdi] at this; cases this
        have hN := hS.1
        rw [if_neg n7] at hN
        have z := obj_cell hN.1 0
        refine ⟨rfl, ?_⟩
        unfold cutA at hK ⊢
        simp only [d0] at hK ⊢
        go_wp2
        exact hK (.pointer (some ⟨g, 0, none⟩)) w' hS rfl
      · intro d x w' hS hdi hv hp hcl K hK
        have d0 : x 1 = .pointer (some ⟨g, 0, none⟩) := hv 1 (hp 1 (by kernel_rfl))
        refine ⟨rfl, ?_⟩
        unfold cutA at hK ⊢
        simp only [d0] at hK ⊢
        go_wp2
        exact hK (.pointer (some ⟨g, 2, none⟩)) w' hS rfl
      · intro d x w' hS hdi hv hp hcl K hK
        have d0 : x 2 = .pointer (some ⟨g, 2, none⟩) := hv 2 (hp 2 (by kernel_rfl))
        have n7 : ¬ d 7 = true := fun e => by have := hcl 7 3 e (by kernel_rfl); rw [hdi] at this; cases this
        have hN := hS.1
        rw [if_neg n7] at hN
        have z := obj_cell hN.1 2
        simp only [List.getElem?_toArray, List.getElem?_cons_zero, List.getElem?_cons_succ] at z
        refine ⟨rfl, ?_⟩
        unfold cutA at hK ⊢
        simp only [d0] at hK ⊢
        go_wp2
        exact hK (.map (some c)) w' hS rfl
      · intro d x w' hS hdi hv hp hcl K hK
        refine ⟨rfl, ?_⟩
        unfold cutA at hK ⊢
        go_wp2
        exact hK (.int .i64 a) w' hS rfl
      · intro d x w' hS hdi hv hp hcl K hK
        refine ⟨rfl, ?_⟩
        unfold cutA at hK ⊢
        go_wp2
        exact hK (.int .i64 b) w' hS rfl
      · intro d x w' hS hdi hv hp hcl K hK
        have d0 : x 4 = .int .i64 a := hv 4 (hp 4 (by kernel_rfl))
        have d1 : x 5 = .int .i64 b := hv 5 (hp 5 (by kernel_rfl))
        have n7 : ¬ d 7 = true := fun e => by have := hcl 7 6 e (by kernel_rfl); rw [hdi] at this; cases this
        have hN := hS.1
        rw [if_neg n7] at hN
        refine ⟨rfl, ?_⟩
        unfold cutA at hK ⊢
        simp only [d0, d1] at hK ⊢
        go_wp2_with fail
        refine (between_any a b _).mono ?_
        rintro e w2 ⟨rfl, hb2⟩
        refine hK _ w2 ⟨?_, hS.2.then_below hb2⟩ rfl
        show if d 7 = true then _ else _
        rw [if_neg n7]
        exact hN.below hb2
      · intro d x w' hS hdi hv hp hcl K hK
        have d0 : x 3 = .map (some c) := hv 3 (hp 3 (by kernel_rfl))
        have d1 : x 6 = .agg #[.int .i64 (lnk a b).1, .int .i64 (lnk a b).2] := hv 6 (hp 6 (by kernel_rfl))
        have n7 : ¬ d 7 = true := by rw [hdi]; decide
        have hN := hS.1
        rw [if_neg n7] at hN
        refine ⟨rfl, ?_⟩
        unfold cutA at hK ⊢
        simp only [d0, d1] at hK ⊢
        obtain ⟨w2, hrun, hc2, hf2⟩ := update_any hN.2.2 (lnk a b)
        refine wp_mapup 206 (.tmp 23) (.tmp 26) (.const (.bool true)) rfl rfl rfl rfl hrun ?_
        refine hK undef w2 ⟨?_, hS.2.trans hf2 (fun i _ e => e)⟩ trivial
        rw [if_pos (by simp)]
        exact ⟨hf2.obj hN.1 hN.map_ne, row_fr hN.2.1 hf2 (fun j e h => by subst h; exact hN.row_ne_map e), hc2⟩
    · intro u hu d x w' hS hd hv
      have h7 := hd 7 (by decide)
      have hN := hS.1
      rw [if_pos h7] at hN
      have HP := hide (show NT w' g v c (cutN N a b true) ∧ Fr (fun j => j = c) _ w' from ⟨hN, hS.2⟩)
      clear hN hS hd hu h7 hv
      unfold cutA
      go_wp2
      go_ret
      exact ⟨rfl, HP.out⟩
def SendS (w0 : World) (g c bm : Nat) (v : Value) (N : NetS) (mc : Array Value) (p : Pcl) (d : Nat → Bool) (x : Nat → Value) (w : World) : Prop :=
  w.heap[bm]? = some (.cells mc 63 (0, 0)) ∧ CM w c N.cuts ∧ Fr (fun j => j = g ∨ v.ownBlock = some j) w0 w ∧
    w.heap[g]? = some (.cells #[.int .i64 N.n, if d 16 = true then x 13 else v, .map (some c)] 209 (0, 0)) ∧
    (if d 13 = true then w.ownsRow 0 214 3 (x 13) (N.way ++ [p]).length (wayVals (N.way ++ [p])) else w.ownsRow 0 214 3 v N.way.length (wayVals N.way)) ∧
    (d 12 = true → d 13 = false → ∃ b, x 12 = .slice (some ⟨b, 0, none⟩) 1 1 ∧ w.heap[b]? = some (.cells p.cells.toArray 214 (0, 0))) ∧
    (d 13 = true → ∀ k, (x 13).ownBlock = some k → v.ownBlock = some k ∨ w0.heap.size ≤ k)
theorem SendS.below {w0 w w' : World} {g c bm : Nat} {v : Value} {N : NetS} {mc : Array Value} {p : Pcl} {d : Nat → Bool} {x : Nat → Value} (h : SendS w0 g c bm v N mc p d x w) (hb : Below w.heap.size w w') : SendS w0 g c bm v N mc p d x w' := by
  refine ⟨obj_below h.1 hb, h.2.1.below hb, h.2.2.1.then_below hb, obj_below h.2.2.2.1 hb, ?_, fun e1 e2 => ?_, h.2.2.2.2.2.2⟩
  · split
    · exact row_below (by have h := h.2.2.2.2.1; rwa [if_pos (by assumption)] at h) hb
    · exact row_below (by have h := h.2.2.2.2.1; rwa [if_neg (by assumption)] at h) hb
  · obtain ⟨b, h1, h2⟩ := h.2.2.2.2.2.1 e1 e2
    exact ⟨b, h1, obj_below h2 hb⟩
def sendN (N : NetS) (f t : Int) (s : List UInt8) : NetS := ⟨N.n, N.way ++ [⟨(lnk f t).1, (lnk f t).2, s⟩], N.cuts⟩
def sndA (g bm : Nat) (p : Pcl) (u x : Nat → Value) : Act := ⟨#[.pointer (some ⟨g, 0, none⟩), u 1, u 2, .pointer (some ⟨bm, 0, none⟩), u 4, .string ⟨p.s.toArray⟩, .int .i64 0, u 7, u 8, u 9, u 10, u 11, u 12, u 13, u 14, u 15, u 16, u 17, u 18, u 19, u 20, u 21, u 22, u 23, u 24, u 25, u 26, u 27, u 28, u 29, u 30, u 31, u 32, u 33, x 0, x 1, x 2, x 3, x 4, x 5, x 6, x 7, x 8, x 9, x 10, x 11, x 12, x 13, x 14, x 15, u 50, u 51], []⟩
def sndV (g bm : Nat) (v0 : Value) (mf mt : Int) (p : Pcl) (i : Nat) (v : Value) : Prop :=
  match i with
  | 0 => v = .pointer (some ⟨g, 0, none⟩)
  | 1 => v = .pointer (some ⟨g, 0, none⟩)
  | 2 => v = .pointer (some ⟨g, 0, none⟩)
  | 3 => v = .pointer (some ⟨g, 1, none⟩)
  | 4 => v = v0
  | 5 => v = .pointer (some ⟨bm, 1, none⟩)
  | 6 => v = .int .i64 mf
  | 7 => v = .pointer (some ⟨bm, 2, none⟩)
  | 8 => v = .int .i64 mt
  | 9 => v = .agg #[.int .i64 p.a, .int .i64 p.b]
  | 10 => v = .string ⟨p.s.toArray⟩
  | 11 => v = .agg #[.int .i64 p.a, .int .i64 p.b, .string ⟨p.s.toArray⟩]
  | 14 => v = .pointer (some ⟨g, 0, none⟩)
  | 15 => v = .pointer (some ⟨g, 1, none⟩)
  | _ => True
set_option maxHeartbeats 4000000 in
set_option maxRecDepth 100000 in
theorem send_nil (mk mf mt mi : Int) (mb : ByteArray) (w : World) : Calls Try.prog 68 #[.pointer none, .agg #[.int .i64 mk, .int .i64 mf, .int .i64 mt, .int .i64 mi, .string mb]] w fun e w' => e = .returned (.bool false) ∧ Below w.heap.size w w' := by
  have HB := hide ((Below.refl w.heap.size w).alloc (Nat.le_refl _) (.cells #[.int .i64 mk, .int .i64 mf, .int .i64 mt, .int .i64 mi, .string mb] 63))
  go_enter Try.func68, Try.ntmps68
  go_wp2_with fail
  refine (node_nil _ _).mono ?_
  rintro e w1 ⟨rfl, rfl⟩
  go_wp2
  go_ret
  exact ⟨rfl, HB.out⟩
set_option maxHeartbeats 4000000 in
set_option maxRecDepth 100000 in
theorem send_no {w : World} {g c : Nat} {v : Value} {N : NetS} (hN : NT w g v c N) (hl : N.way.length ≤ 1048576) (mk mf mt mi : Int) (mb : ByteArray) (h : ¬ (nodeP N mf ∧ nodeP N mt ∧ N.way.length < 1024)) : Calls Try.prog 68 #[.pointer (some ⟨g, 0, none⟩), .agg #[.int .i64 mk, .int .i64 mf, .int .i64 mt, .int .i64 mi, .string mb]] w fun e w' => e = .returned (.bool false) ∧ Below w.heap.size w w' := by
  have hb := (Below.refl w.heap.size w).alloc (Nat.le_refl _) (.cells #[.int .i64 mk, .int .i64 mf, .int .i64 mt, .int .i64 mi, .string mb] 63)
  have HB := hide hb
  have hN2 := hN.below hb
  have HA := hide (node_any hN2 mf)
  have HT := hide (node_any hN2 mt)
  obtain ⟨A, cap, rfl⟩ := hN2.slice
  have z1 := obj_cell hN2.1 1
  simp only [List.getElem?_toArray, List.getElem?_cons_zero, List.getElem?_cons_succ] at z1
  by_cases h1 : nodeP N mf
  · by_cases h2 : nodeP N mt
    · have h3 : (1024 : Int) ≤ N.way.length := by
        have : ¬ N.way.length < 1024 := fun h3 => h ⟨h1, h2, h3⟩
        omega
      rw [decide_eq_true h1] at HA
      rw [decide_eq_true h2] at HT
      clear h h1 h2 hN hN2 hb
      go_enter Try.func68, Try.ntmps68
      go_wp2_with fail
      refine HA.out.mono ?_
      rintro e w1 ⟨rfl, rfl⟩
      go_wp2_with fail
      refine HT.out.mono ?_
      rintro e w1 ⟨rfl, rfl⟩
      go_wp2
      go_ret
      exact ⟨rfl, HB.out⟩
    · rw [decide_eq_true h1] at HA
      rw [decide_eq_false h2] at HT
      clear h h1 h2 hN hN2 hb
      go_enter Try.func68, Try.ntmps68
      go_wp2_with fail
      refine HA.out.mono ?_
      rintro e w1 ⟨rfl, rfl⟩
      go_wp2_with fail
      refine HT.out.mono ?_
      rintro e w1 ⟨rfl, rfl⟩
      go_wp2
      go_ret
      exact ⟨rfl, HB.out⟩
  · rw [decide_eq_false h1] at HA
    clear h h1 hN hN2 hb
    go_enter Try.func68, Try.ntmps68
    go_wp2_with fail
    refine HA.out.mono ?_
    rintro e w1 ⟨rfl, rfl⟩
    go_wp2
    go_ret
    exact ⟨rfl, HB.out⟩
set_option maxHeartbeats 4000000 in
set_option maxRecDepth 100000 in
theorem send_err {w : World} {g c : Nat} {v : Value} {N : NetS} (hN : NT w g v c N) (mk mf mt mi : Int) (mb o : ByteArray) (ec : Int) (h1 : nodeP N mf) (h2 : nodeP N mt) (h3 : N.way.length < 1024) (hE : EncTo mk mf mt mi mb o ec) (hc : ec ≠ 0) : Calls Try.prog 68 #[.pointer (some ⟨g, 0, none⟩), .agg #[.int .i64 mk, .int .i64 mf, .int .i64 mt, .int .i64 mi, .string mb]] w fun e w' => e = .returned (.bool false) ∧ Below w.heap.size w w' := by
  have hb := (Below.refl w.heap.size w).alloc (Nat.le_refl _) (.cells #[.int .i64 mk, .int .i64 mf, .int .i64 mt, .int .i64 mi, .string mb] 63)
  have HB := hide hb
  have hN2 := hN.below hb
  have HA := hide (node_any hN2 mf)
  have HT := hide (node_any hN2 mt)
  rw [decide_eq_true h1] at HA
  rw [decide_eq_true h2] at HT
  have h3' : ¬ (1024 : Int) ≤ N.way.length := by omega
  obtain ⟨A, cap, rfl⟩ := hN2.slice
  have z1 := obj_cell hN2.1 1
  simp only [List.getElem?_toArray, List.getElem?_cons_zero, List.getElem?_cons_succ] at z1
  have hc1 : (ec == 0) = false := by simp [hc]
  have HE := hide hE
  clear h1 h2 h3 hN hN2 hb hE hc
  go_enter Try.func68, Try.ntmps68
  go_wp2_with fail
  refine HA.out.mono ?_
  rintro e w1 ⟨rfl, rfl⟩
  go_wp2_with fail
  refine HT.out.mono ?_
  rintro e w1 ⟨rfl, rfl⟩
  go_wp2_with fail
  refine (HE.out _).mono ?_
  rintro e w1 ⟨rfl, hb1⟩
  go_wp2
  go_ret
  exact ⟨rfl, HB.out.trans (hb1.mono HB.out.size)⟩
set_option maxHeartbeats 4000000 in
set_option maxRecDepth 100000 in
theorem send_ok {w : World} {g c : Nat} {v : Value} {N : NetS} (hN : NT w g v c N) (mk mf mt mi : Int) (mb o : ByteArray) (h1 : nodeP N mf) (h2 : nodeP N mt) (h3 : N.way.length < 1024) (hE : EncTo mk mf mt mi mb o 0) : Calls Try.prog 68 #[.pointer (some ⟨g, 0, none⟩), .agg #[.int .i64 mk, .int .i64 mf, .int .i64 mt, .int .i64 mi, .string mb]] w fun e w' =>
    e = .returned (.bool true) ∧ (∃ v', NT w' g v' c (sendN N mf mt o.data.toList) ∧ ∀ k, v'.ownBlock = some k → v.ownBlock = some k ∨ w.heap.size ≤ k) ∧ Fr (fun j => j = g ∨ v.ownBlock = some j) w w' := by
  obtain ⟨p, hp⟩ : ∃ p : Pcl, p = ⟨(lnk mf mt).1, (lnk mf mt).2, o.data.toList⟩ := ⟨_, rfl⟩
  have HLK : Hid (lkey (lnk mf mt) = .agg #[.int .i64 p.a, .int .i64 p.b]) := hide (by rw [hp]; rfl)
  have ho : o = ⟨p.s.toArray⟩ := by rw [hp]
  have HP := hide (show sendN N mf mt o.data.toList = ⟨N.n, N.way ++ [p], N.cuts⟩ from by rw [hp]; rfl)
  rw [HP.out]
  subst ho
  clear hp
  have hb := (Below.refl w.heap.size w).alloc (Nat.le_refl _) (.cells #[.int .i64 mk, .int .i64 mf, .int .i64 mt, .int .i64 mi, .string mb] 63)
  have HB := hide hb
  have hN2 := hN.below hb
  have HA := hide (node_any hN2 mf)
  have HT := hide (node_any hN2 mt)
  rw [decide_eq_true h1] at HA
  rw [decide_eq_true h2] at HT
  have h3' : ¬ (1024 : Int) ≤ N.way.length := by omega
  have hl : N.way.length ≤ 1048576 := by omega
  obtain ⟨A, cap, hv⟩ := hN2.slice
  have HV := hide hv
  have z1 := obj_cell hN2.1 1
  simp only [List.getElem?_toArray, List.getElem?_cons_zero, List.getElem?_cons_succ] at z1
  rw [hv] at z1
  have HN := hide hN2
  have HM := hide (obj_new w (.cells #[.int .i64 mk, .int .i64 mf, .int .i64 mt, .int .i64 mi, .string mb] 63))
  have HE := hide hE
  clear h1 h2 h3 hN hN2 hb hE hv
  go_enter Try.func68, Try.ntmps68
  go_wp2_with fail
  refine HA.out.mono ?_
  rintro e w1 ⟨rfl, rfl⟩
  go_wp2_with fail
  refine HT.out.mono ?_
  rintro e w1 ⟨rfl, rfl⟩
  go_wp2_with fail
  refine (HE.out _).mono ?_
  rintro e w1 ⟨rfl, hb1⟩
  have HN1 := hide (HN.out.below hb1)
  have HM1 := hide (obj_below HM.out hb1)
  have HB1 := hide (HB.out.trans (hb1.mono HB.out.size))
  clear hb1 HN HM HB z1 HA HT HE
  go_wp2_with fail
  refine wp_region_c (sndA g w.heap.size p) (fun j => #[34, 35, 36, 37, 38, 39, 40, 41, 42, 43, 44, 45, 46, 47, 48, 49, 0].getD j 0) (fun d x w' => SendS w1 g c w.heap.size v N #[.int .i64 mk, .int .i64 mf, .int .i64 mt, .int .i64 mi, .string mb] p d x w') (fun qi qv => sndV g w.heap.size v mf mt p qi qv) (by kernel_rfl) (by kernel_rfl) rfl ⟨HM1.out, HN1.out.2.2, (Fr.refl _ _).drew, by rw [if_neg (by decide)]; exact HN1.out.1, by rw [if_neg (by decide)]; exact row_draw HN1.out.2.1, (fun e => by cases e), (fun e => by cases e)⟩ ?_ ?_ ?_
  · exact fun u => ⟨fun x v => rfl, fun x v => rfl, fun x v => rfl, fun x v => rfl, fun x v => rfl, fun x v => rfl, fun x v => rfl, fun x v => rfl, fun x v => rfl, fun x v => rfl, fun x v => rfl, fun x v => rfl, fun x v => rfl, fun x v => rfl, fun x v => rfl, fun x v => rfl, fun x v => rfl, trivial⟩
  · refine fun u => ⟨?_, ?_, ?_, ?_, ?_, ?_, ?_, ?_, ?_, ?_, ?_, ?_, ?_, ?_, ?_, ?_, ?_, trivial⟩
    · intro d x w' hS hdi hv hp hcl K hK
      refine ⟨rfl, ?_⟩
      unfold sndA at hK ⊢
      go_wp2
      exact hK (.pointer (some ⟨g, 0, none⟩)) w' hS rfl
    · intro d x w' hS hdi hv hp hcl K hK
      refine ⟨rfl, ?_⟩
      unfold sndA at hK ⊢
      go_wp2
      exact hK (.pointer (some ⟨g, 0, none⟩)) w' hS rfl
    · intro d x w' hS hdi hv hp hcl K hK
      have d0 : x 1 = .pointer (some ⟨g, 0, none⟩) := hv 1 (hp 1 (by kernel_rfl))
      have z := obj_cell hS.2.2.2.1 0
      refine ⟨rfl, ?_⟩
      unfold sndA at hK ⊢
      simp only [d0] at hK ⊢
      go_wp2
      exact hK (.pointer (some ⟨g, 0, none⟩)) w' hS rfl
    · intro d x w' hS hdi hv hp hcl K hK
      have d0 : x 2 = .pointer (some ⟨g, 0, none⟩) := hv 2 (hp 2 (by kernel_rfl))
      refine ⟨rfl, ?_⟩
      unfold sndA at hK ⊢
      simp only [d0] at hK ⊢
      go_wp2
      exact hK (.pointer (some ⟨g, 1, none⟩)) w' hS rfl
    · intro d x w' hS hdi hv hp hcl K hK
      have d0 : x 3 = .pointer (some ⟨g, 1, none⟩) := hv 3 (hp 3 (by kernel_rfl))
      have n16 : ¬ d 16 = true := fun e => by have := hcl 16 4 e (by kernel_rfl); rw [hdi] at this; cases this
      have z := obj_cell hS.2.2.2.1 1
      rw [if_neg n16] at z
      simp only [List.getElem?_toArray, List.getElem?_cons_zero, List.getElem?_cons_succ] at z
      refine ⟨rfl, ?_⟩
      unfold sndA at hK ⊢
      simp only [d0] at hK ⊢
      go_wp2
      exact hK (v) w' hS rfl
    · intro d x w' hS hdi hv hp hcl K hK
      refine ⟨rfl, ?_⟩
      unfold sndA at hK ⊢
      go_wp2
      exact hK (.pointer (some ⟨w.heap.size, 1, none⟩)) w' hS rfl
    · intro d x w' hS hdi hv hp hcl K hK
      have d0 : x 5 = .pointer (some ⟨w.heap.size, 1, none⟩) := hv 5 (hp 5 (by kernel_rfl))
      have z := obj_cell hS.1 1
      simp only [List.getElem?_toArray, List.getElem?_cons_zero, List.getElem?_cons_succ] at z
      refine ⟨rfl, ?_⟩
      unfold sndA at hK ⊢
      simp only [d0] at hK ⊢
      go_wp2
      exact hK (.int .i64 mf) w' hS rfl
    · intro d x w' hS hdi hv hp hcl K hK
      refine ⟨rfl, ?_⟩
      unfold sndA at hK ⊢
      go_wp2
      exact hK (.pointer (some ⟨w.heap.size, 2, none⟩)) w' hS rfl
    · intro d x w' hS hdi hv hp hcl K hK
      have d0 : x 7 = .pointer (some ⟨w.heap.size, 2, none⟩) := hv 7 (hp 7 (by kernel_rfl))
      have z := obj_cell hS.1 2
      simp only [List.getElem?_toArray, List.getElem?_cons_zero, List.getElem?_cons_succ] at z
      refine ⟨rfl, ?_⟩
      unfold sndA at hK ⊢
      simp only [d0] at hK ⊢
      go_wp2
      exact hK (.int .i64 mt) w' hS rfl
    · intro d x w' hS hdi hv hp hcl K hK
      have d0 : x 6 = .int .i64 mf := hv 6 (hp 6 (by kernel_rfl))
      have d1 : x 8 = .int .i64 mt := hv 8 (hp 8 (by kernel_rfl))
      refine ⟨rfl, ?_⟩
      unfold sndA at hK ⊢
      simp only [d0, d1] at hK ⊢
      go_wp2_with fail
      refine (between_any mf mt _).mono ?_
      rintro e w2 ⟨rfl, hb2⟩
      refine hK _ w2 (SendS.below hS hb2) HLK.out
    · intro d x w' hS hdi hv hp hcl K hK
      refine ⟨rfl, ?_⟩
      unfold sndA at hK ⊢
      go_wp2
      exact hK (.string ⟨p.s.toArray⟩) w' hS rfl
    · intro d x w' hS hdi hv hp hcl K hK
      have d0 : x 9 = .agg #[.int .i64 p.a, .int .i64 p.b] := hv 9 (hp 9 (by kernel_rfl))
      have d1 : x 10 = .string ⟨p.s.toArray⟩ := hv 10 (hp 10 (by kernel_rfl))
      refine ⟨rfl, ?_⟩
      unfold sndA at hK ⊢
      simp only [d0, d1] at hK ⊢
      go_wp2
      exact hK (.agg #[.int .i64 p.a, .int .i64 p.b, .string ⟨p.s.toArray⟩]) w' hS rfl
    · intro d x w' hS hdi hv hp hcl K hK
      have d0 : x 11 = .agg #[.int .i64 p.a, .int .i64 p.b, .string ⟨p.s.toArray⟩] := hv 11 (hp 11 (by kernel_rfl))
      refine ⟨rfl, ?_⟩
      unfold sndA at hK ⊢
      simp only [d0] at hK ⊢
      go_wp2
      have hS2 := SendS.below hS ((Below.refl w'.heap.size w').alloc (Nat.le_refl _) (.cells #[.int .i64 p.a, .int .i64 p.b, .string ⟨p.s.toArray⟩] 214))
      exact hK (.slice (some ⟨w'.heap.size, 0, none⟩) 1 1) _ ⟨hS2.1, hS2.2.1, hS2.2.2.1, hS2.2.2.2.1, hS2.2.2.2.2.1, fun _ _ => ⟨_, rfl, obj_new _ _⟩, hS2.2.2.2.2.2.2⟩ trivial
    · intro d x w' hS hdi hv hp hcl K hK
      have d0 : x 4 = v := hv 4 (hp 4 (by kernel_rfl))
      have n13 : ¬ d 13 = true := by rw [hdi]; decide
      have n16 : ¬ d 16 = true := fun e => by have := hcl 16 13 e (by kernel_rfl); rw [hdi] at this; cases this
      have hrw := hS.2.2.2.2.1
      rw [if_neg n13] at hrw
      obtain ⟨b, e12, hob⟩ := hS.2.2.2.2.2.1 (hp 12 (by kernel_rfl)) hdi
      obtain ⟨v2, w2, hrun, hown2, hf2, hv2⟩ := app_pcl hrw p hob hl 207
      have hov : ∀ k, v2.ownBlock = some k → v.ownBlock = some k ∨ w1.heap.size ≤ k := fun k e => by
        rcases hv2 with e2 | e2
        · exact .inl (e2 ▸ e)
        · rw [e2] at e; cases e; exact .inr hS.2.2.1.size
      refine ⟨rfl, ?_⟩
      unfold sndA at hK ⊢
      simp only [d0, e12] at hK ⊢
      refine wp_append_n (.tmp 38) (.tmp 46) 207 207 rfl rfl rfl hrun ?_
      refine hK v2 w2 ⟨hf2.obj hS.1 (row_ne_t hrw hS.1 (by decide)), hS.2.1.fr hf2 (row_ne_m hrw hS.2.1), hS.2.2.1.trans hf2 (fun i _ e => .inr e), ?_, ?_, (fun _ e => by simp at e), fun _ => hov⟩ trivial
      · have h := hf2.obj hS.2.2.2.1 (row_ne_t hrw hS.2.2.2.1 (by decide))
        rw [if_neg n16] at h
        show w2.heap[g]? = some (Obj.cells #[.int .i64 N.n, if d 16 = true then _ else _, .map (some c)] 209 (0, 0))
        rw [if_neg n16]
        exact h
      · rw [if_pos (by simp)]
        exact hown2
    · intro d x w' hS hdi hv hp hcl K hK
      have d0 : x 0 = .pointer (some ⟨g, 0, none⟩) := hv 0 (hp 0 (by kernel_rfl))
      have z := obj_cell hS.2.2.2.1 0
      refine ⟨rfl, ?_⟩
      unfold sndA at hK ⊢
      simp only [d0] at hK ⊢
      go_wp2
      exact hK (.pointer (some ⟨g, 0, none⟩)) w' hS rfl
    · intro d x w' hS hdi hv hp hcl K hK
      have d0 : x 14 = .pointer (some ⟨g, 0, none⟩) := hv 14 (hp 14 (by kernel_rfl))
      refine ⟨rfl, ?_⟩
      unfold sndA at hK ⊢
      simp only [d0] at hK ⊢
      go_wp2
      exact hK (.pointer (some ⟨g, 1, none⟩)) w' hS rfl
    · intro d x w' hS hdi hv hp hcl K hK
      have d0 : x 15 = .pointer (some ⟨g, 1, none⟩) := hv 15 (hp 15 (by kernel_rfl))
      have y13 : d 13 = true := hp 13 (by kernel_rfl)
      have hrw := hS.2.2.2.2.1
      rw [if_pos y13] at hrw
      obtain ⟨A5, c5, e13⟩ := row_slice_n hrw
      generalize (N.way ++ [p]).length = m5 at e13
      have z := obj_cell hS.2.2.2.1 1
      simp only [List.getElem?_toArray, List.getElem?_cons_zero, List.getElem?_cons_succ] at z
      have tz := obj_frozen hS.2.2.2.1 1
      refine ⟨rfl, ?_⟩
      unfold sndA at hK ⊢
      simp only [d0, e13] at hK ⊢
      go_wp2
      have F := (Fr.refl (fun j => j = g) w').setCell (p := ⟨g, 1, none⟩) (fun _ => rfl) (.slice A5 m5 c5)
      refine hK undef _ ⟨F.obj hS.1 (obj_ne_t hS.1 hS.2.2.2.1 (by decide)), hS.2.1.fr F (cm_ne hS.2.1 hS.2.2.2.1).symm, hS.2.2.1.trans F (fun i _ e => .inl e), ?_, ?_, (fun _ e => by simp [y13] at e), hS.2.2.2.2.2.2⟩ trivial
      · rw [if_pos (by simp)]
        show _ = some (Obj.cells #[.int .i64 N.n, x 13, .map (some c)] 209 (0, 0))
        rw [e13]
        exact obj_set hS.2.2.2.1 1 _
      · show if d 13 = true then _ else _
        rw [if_pos y13]
        exact row_fr hrw F (fun j e h => by subst h; exact row_ne_t hrw hS.2.2.2.1 (by decide) e)
  · intro u hu d x w' hS hd hv
    have h13 := hd 13 (by decide)
    have h16 := hd 16 (by decide)
    obtain ⟨s1, s2, s3, s4, s5, s6, s7⟩ := hS
    rw [if_pos h16] at s4
    rw [if_pos h13] at s5
    have HP := hide (show (∃ v', NT w' g v' c ⟨N.n, N.way ++ [p], N.cuts⟩ ∧ ∀ k, v'.ownBlock = some k → v.ownBlock = some k ∨ w.heap.size ≤ k) ∧ Fr (fun j => j = g ∨ v.ownBlock = some j) w w' from ⟨⟨_, ⟨s4, s5, s2⟩, fun k e => (s7 h13 k e).imp id (fun h => Nat.le_trans HB1.out.size h)⟩, (Fr.of_below HB1.out).trans s3 (fun i _ e => e)⟩)
    clear s1 s2 s3 s4 s5 s6 s7 hv hd hu h13 h16
    unfold sndA
    go_wp2
    go_ret
    exact ⟨rfl, HP.out⟩
end Go.Proofs.Ytljmaicobafgkaa
end
section
/- Chapter 13, net: a net, whole: what each call makes of it. -/
namespace Go.Proofs.Ytljmaicobafgkaa
open Go.RowKit

def ntObj (w : World) (j : Nat) : Prop := (∃ cs t f, w.heap[j]? = some (.cells cs t f) ∧ (t = 209 ∨ t = 214)) ∨ ∃ es k, w.heap[j]? = some (.map es k)
/-- Of what lay from block B on, nets alone, their rows and maps may be turned. -/
def KeepN (B : Nat) (w w' : World) : Prop := Fr (fun j => B ≤ j ∧ ntObj w j) w w'
theorem KeepN.refl (B : Nat) (w : World) : KeepN B w w := Fr.refl _ _
theorem KeepN.of_below {B : Nat} {w w' : World} (h : Below w.heap.size w w') : KeepN B w w' := Fr.of_below h
theorem ntObj_same {w w' : World} {j : Nat} (h : w'.heap[j]? = w.heap[j]?) (hn : ntObj w' j) : ntObj w j := by
  unfold ntObj at hn ⊢
  rw [h] at hn
  exact hn
theorem KeepN.trans {B : Nat} {a b c : World} (h : KeepN B a b) (k : KeepN B b c) : KeepN B a c := by
  refine ⟨k.os.trans h.os, k.tape.trans h.tape, k.output.trans h.output, Nat.le_trans h.size k.size, fun i hi hf => ?_⟩
  have h1 := h.block i hi hf
  refine (k.block i (Nat.lt_of_lt_of_le hi h.size) (fun hg => hf ⟨hg.1, ntObj_same h1 hg.2⟩)).trans h1
theorem KeepN.obj {B : Nat} {w w' : World} (h : KeepN B w w') {k : Nat} {cs : Array Value} {t : TypeId} {f : Nat × Nat} (ho : w.heap[k]? = some (.cells cs t f)) (h1 : t ≠ 209) (h2 : t ≠ 214) : w'.heap[k]? = some (.cells cs t f) := by
  refine Fr.obj h ho ?_
  rintro ⟨-, ⟨cs', t', f', h3, h4⟩ | ⟨es, ck, h3⟩⟩
  · rw [ho] at h3
    simp only [Option.some.injEq, Obj.cells.injEq] at h3
    rcases h4 with h4 | h4
    · exact h1 (h3.2.1.trans h4)
    · exact h2 (h3.2.1.trans h4)
  · rw [ho] at h3
    cases h3
theorem KeepN.below {B : Nat} {w w' : World} (h : KeepN B w w') (hB : B ≤ w.heap.size) : Below B w w' := Fr.below h B hB (fun k hk hf => by omega)
theorem KeepN.on {B : Nat} {w0 w w' : World} (h0 : Below B w0 w) (hB : B ≤ w.heap.size) (h : KeepN B w w') : Below B w0 w' := h0.trans (h.below hB)
/-- Bytes under way are not too few, and not too many. -/
def NIv (N : NetS) : Prop := N.way.length ≤ 1024 ∧ ∀ p ∈ N.way, 4 ≤ p.s.length ∧ p.s.length ≤ 10000
def Net (w : World) (B g : Nat) (N : NetS) : Prop := (∃ v c, NT w g v c N ∧ B ≤ g ∧ B ≤ c ∧ ∀ k, v.ownBlock = some k → B ≤ k) ∧ NIv N
theorem Net.below {w w' : World} {B g : Nat} {N : NetS} (h : Net w B g N) (hb : Below w.heap.size w w') : Net w' B g N := by
  obtain ⟨⟨v, c, h1, h2⟩, h3⟩ := h
  exact ⟨⟨v, c, h1.below hb, h2⟩, h3⟩
theorem Net.lt {w : World} {B g : Nat} {N : NetS} (h : Net w B g N) : g < w.heap.size := by
  obtain ⟨⟨v, c, h1, h2⟩, h3⟩ := h
  exact obj_lt h1.1
theorem nt_nt {w : World} {g c : Nat} {v : Value} {N : NetS} (h : NT w g v c N) {j : Nat} (hj : j = g ∨ v.ownBlock = some j ∨ j = c) : ntObj w j := by
  rcases hj with rfl | hj | rfl
  · exact .inl ⟨_, _, _, h.1, .inl rfl⟩
  · rcases h.2.1.2 with ⟨rfl, _⟩ | ⟨g', cap, cur, rfl, h2, h3, h4⟩
    · cases hj
    · cases hj
      exact .inl ⟨_, _, _, h3, .inr rfl⟩
  · obtain ⟨es, k, hc, _⟩ := h.2.2
    exact .inr ⟨_, _, hc⟩
theorem keepN {w w' : World} {B g c : Nat} {v : Value} {N : NetS} (h : NT w g v c N) (hg : B ≤ g) (hc : B ≤ c) (hv : ∀ k, v.ownBlock = some k → B ≤ k) {F : Nat → Prop} (hf : Fr F w w') (hF : ∀ j, F j → j = g ∨ v.ownBlock = some j ∨ j = c) : KeepN B w w' :=
  hf.mono fun j _ hj => ⟨(hF j hj).elim (fun e => e ▸ hg) (fun h1 => h1.elim (hv j) (fun e => e ▸ hc)), nt_nt h (hF j hj)⟩
/-- The message of bytes, and whether there is one. -/
noncomputable def decMsg (l : List UInt8) : Msg := (decM l).choose
noncomputable def decErr (l : List UInt8) : Int := (decM l).choose_spec.choose
theorem decMsg_spec (l : List UInt8) : decV l = .tuple #[.agg (decMsg l).cells, .int .i64 (decErr l)] := (decM l).choose_spec.choose_spec
theorem decMsg_eq {l : List UInt8} {m : Msg} {ec : Int} (h : decV l = .tuple #[.agg m.cells, .int .i64 ec]) : decMsg l = m ∧ decErr l = ec := by
  have h2 := (decMsg_spec l).symm.trans h
  obtain ⟨k, f, t, i, b⟩ := m
  generalize decMsg l = m2 at h2
  obtain ⟨k2, f2, t2, i2, b2⟩ := m2
  simp only [Msg.cells, Value.tuple.injEq, Array.mk.injEq, List.cons.injEq, Value.agg.injEq, Value.int.injEq, Value.string.injEq, true_and, and_true] at h2
  obtain ⟨⟨h1, h3, h4, h5, h6⟩, h7⟩ := h2
  exact ⟨by rw [h1, h3, h4, h5, h6], h7⟩
def net0 (n : Int) : NetS := ⟨min (max n 1) 64, [], fun _ => false⟩
def canS (N : NetS) (f t : Int) : Prop := nodeP N f ∧ nodeP N t ∧ N.way.length < 1024
instance (N : NetS) (f t : Int) : Decidable (canS N f t) := by unfold canS; infer_instance
def sendY (N : NetS) (f t : Int) (ec : Int) : Bool := decide (canS N f t ∧ ec = 0)
def sendX (N : NetS) (f t : Int) (o : ByteArray) (ec : Int) : NetS := if sendY N f t ec = true then sendN N f t o.data.toList else N
def dropX (N : NetS) (i : Int) : NetS := if 0 < N.way.length then outN N (atI i N.way.length) else N
def anyY (N : NetS) : Bool := decide (0 < N.way.length)
noncomputable def dvM (N : NetS) (i : Int) : Msg × Bool := if h : 0 < N.way.length then
    (if N.cuts ((N.way[atI i N.way.length]'(atI_lt i h)).a, (N.way[atI i N.way.length]'(atI_lt i h)).b) = true then (msg0, false)
     else (decMsg (N.way[atI i N.way.length]'(atI_lt i h)).s, decErr (N.way[atI i N.way.length]'(atI_lt i h)).s == 0))
  else (msg0, false)
def doubY (N : NetS) : Bool := decide (0 < N.way.length ∧ N.way.length < 1024)
def doubX (N : NetS) (i : Int) : NetS := if h : 0 < N.way.length ∧ N.way.length < 1024 then dblN N (atI i N.way.length) (atI_lt i h.1) else N
def spoiX (N : NetS) (i a y : Int) : NetS := if h : 0 < N.way.length then spN N (atI i N.way.length) (atI_lt i h) a y else N
def cutY (N : NetS) (a b : Int) : Bool := decide (nodeP N a ∧ nodeP N b)
def cutX (N : NetS) (a b : Int) (on : Bool) : NetS := if cutY N a b = true then cutN N a b on else N
theorem NIv.out {N : NetS} (h : NIv N) (k : Nat) : NIv (outN N k) :=
  ⟨Nat.le_trans (List.length_eraseIdx_le _ _) h.1, fun p hp => h.2 p (List.mem_of_mem_eraseIdx hp)⟩
theorem NIv.net0 (n : Int) : NIv (net0 n) := ⟨by simp [Go.Proofs.Ytljmaicobafgkaa.net0], fun p hp => by simp [Go.Proofs.Ytljmaicobafgkaa.net0] at hp⟩
theorem spL_len (s : List UInt8) (a y : Int) : (spL s a y).length = s.length := by unfold spL; rw [List.length_set]
section
variable {w : World} {B g : Nat} {N : NetS}
theorem new_net (n : Int) (w : World) : Calls Try.prog 67 #[.int .i64 n] w fun e w' => e = .returned (.pointer (some ⟨w.heap.size + 1, 0, none⟩)) ∧ Net w' w.heap.size (w.heap.size + 1) (net0 n) ∧ Below w.heap.size w w' :=
  (new13_any n w).mono fun e w' ⟨h1, h2, h3⟩ => ⟨h1, ⟨⟨_, _, h2, by omega, by omega, fun k hk => by cases hk⟩, NIv.net0 n⟩, h3⟩
theorem waiting_net (h : Net w B g N) : Calls Try.prog 73 #[.pointer (some ⟨g, 0, none⟩)] w fun e w' => e = .returned (.int .i64 (N.way.length : Int)) ∧ w' = w := by
  obtain ⟨⟨v, c, h1, h2⟩, h3⟩ := h
  exact waiting_any h1
theorem send_net (h : Net w B g N) (mk mf mt mi : Int) (mb o : ByteArray) (ec : Int) (hE : EncTo mk mf mt mi mb o ec) (ho : ec = 0 → 4 ≤ o.size ∧ o.size ≤ 10000) :
    Calls Try.prog 68 #[.pointer (some ⟨g, 0, none⟩), .agg #[.int .i64 mk, .int .i64 mf, .int .i64 mt, .int .i64 mi, .string mb]] w fun e w' => e = .returned (.bool (sendY N mf mt ec)) ∧ Net w' B g (sendX N mf mt o ec) ∧ KeepN B w w' := by
  obtain ⟨⟨v, c, h1, hg, hc, hv⟩, h3⟩ := h
  by_cases hs : canS N mf mt
  · by_cases he : ec = 0
    · have hy : sendY N mf mt ec = true := decide_eq_true ⟨hs, he⟩
      subst he
      refine (send_ok h1 mk mf mt mi mb o hs.1 hs.2.1 hs.2.2 hE).mono ?_
      rintro e w' ⟨he, ⟨v', h4, h5⟩, hf⟩
      refine ⟨by rw [he, hy], ?_, keepN h1 hg hc hv hf (fun j hj => hj.imp id .inl)⟩
      unfold sendX
      rw [if_pos hy]
      refine ⟨⟨v', c, h4, hg, hc, fun k hk => ?_⟩, ?_, fun p hp => ?_⟩
      · rcases h5 k hk with h6 | h6
        · exact hv k h6
        · have := obj_lt h1.1
          omega
      · have := hs.2.2
        simp [sendN]
        omega
      · simp only [sendN, List.mem_append, List.mem_singleton] at hp
        rcases hp with hp | rfl
        · exact h3.2 p hp
        · have := ho rfl
          rw [size_list] at this
          exact this
    · have hy : sendY N mf mt ec = false := decide_eq_false (fun h => he h.2)
      refine (send_err h1 mk mf mt mi mb o ec hs.1 hs.2.1 hs.2.2 hE he).mono ?_
      rintro e w' ⟨he, hb⟩
      unfold sendX
      rw [hy, if_neg (by decide)]
      exact ⟨he, ⟨⟨v, c, h1.below hb, hg, hc, hv⟩, h3⟩, KeepN.of_below hb⟩
  · have hy : sendY N mf mt ec = false := decide_eq_false (fun h => hs h.1)
    refine (send_no h1 (by have := h3.1; omega) mk mf mt mi mb hs).mono ?_
    rintro e w' ⟨he, hb⟩
    unfold sendX
    rw [hy, if_neg (by decide)]
    exact ⟨he, ⟨⟨v, c, h1.below hb, hg, hc, hv⟩, h3⟩, KeepN.of_below hb⟩
theorem row_eq {v : Value} {c : Nat} (h : NT w g v c N) (h0 : 0 < N.way.length) : ∃ r cap, v = .slice (some ⟨r, 0, none⟩) N.way.length cap := h.some h0
theorem drop_net (h : Net w B g N) (i : Int) : Calls Try.prog 70 #[.pointer (some ⟨g, 0, none⟩), .int .i64 i] w fun e w' => e = .returned (.bool (anyY N)) ∧ Net w' B g (dropX N i) ∧ KeepN B w w' := by
  obtain ⟨⟨v, c, h1, hg, hc, hv⟩, h3⟩ := h
  unfold anyY dropX
  by_cases h0 : 0 < N.way.length
  · obtain ⟨r, cap, rfl⟩ := h1.some h0
    refine (drop13_any h1 h0 (by have := h3.1; omega) i).mono ?_
    rintro e w' ⟨he, hn, hf⟩
    rw [decide_eq_true h0, if_pos h0]
    exact ⟨he, ⟨⟨_, c, hn, hg, hc, fun k hk => by cases hk; exact hv _ rfl⟩, h3.out _⟩, keepN h1 hg hc hv hf (fun j hj => hj.imp id (fun e => .inl (by rw [e]; rfl)))⟩
  · refine (drop13_off h1 (by omega) i).mono ?_
    rintro e w' ⟨he, hb⟩
    rw [decide_eq_false h0, if_neg h0]
    exact ⟨he, ⟨⟨v, c, h1.below hb, hg, hc, hv⟩, h3⟩, KeepN.of_below hb⟩
theorem deliver_net (h : Net w B g N) (i : Int) : Calls Try.prog 69 #[.pointer (some ⟨g, 0, none⟩), .int .i64 i] w fun e w' => e = .returned (.tuple #[.agg (dvM N i).1.cells, .bool (dvM N i).2]) ∧ Net w' B g (dropX N i) ∧ KeepN B w w' := by
  obtain ⟨⟨v, c, h1, hg, hc, hv⟩, h3⟩ := h
  unfold dvM dropX
  by_cases h0 : 0 < N.way.length
  · obtain ⟨r, cap, rfl⟩ := h1.some h0
    have hp := h3.2 (N.way[atI i N.way.length]'(atI_lt i h0)) (List.getElem_mem _)
    refine (deliver_any h1 h0 (by have := h3.1; omega) i _ rfl (decMsg_spec _) hp.1 (by omega)).mono ?_
    rintro e w' ⟨he, hn, hf⟩
    rw [dif_pos h0, if_pos h0]
    refine ⟨?_, ⟨⟨_, c, hn, hg, hc, fun k hk => by cases hk; exact hv _ rfl⟩, h3.out _⟩, keepN h1 hg hc hv hf (fun j hj => hj.imp id (fun e => .inl (by rw [e]; rfl)))⟩
    rw [he]
    unfold delRes
    split <;> rfl
  · refine (deliver_off h1 (by omega) i).mono ?_
    rintro e w' ⟨he, hb⟩
    rw [dif_neg h0, if_neg h0]
    exact ⟨he, ⟨⟨v, c, h1.below hb, hg, hc, hv⟩, h3⟩, KeepN.of_below hb⟩
theorem double_net (h : Net w B g N) (i : Int) : Calls Try.prog 71 #[.pointer (some ⟨g, 0, none⟩), .int .i64 i] w fun e w' => e = .returned (.bool (doubY N)) ∧ Net w' B g (doubX N i) ∧ KeepN B w w' := by
  obtain ⟨⟨v, c, h1, hg, hc, hv⟩, h3⟩ := h
  unfold doubY doubX
  by_cases h0 : 0 < N.way.length ∧ N.way.length < 1024
  · obtain ⟨r, cap, rfl⟩ := h1.some h0.1
    refine (double_any h1 h0.1 h0.2 i).mono ?_
    rintro e w' ⟨he, ⟨v', hn, h5⟩, hf⟩
    rw [decide_eq_true h0, dif_pos h0]
    refine ⟨he, ⟨⟨v', c, hn, hg, hc, fun k hk => ?_⟩, ?_, fun p hp => ?_⟩, keepN h1 hg hc hv hf (fun j hj => hj.imp id (fun e => .inl (by rw [e]; rfl)))⟩
    · rcases h5 k hk with rfl | h6
      · exact hv _ rfl
      · have := obj_lt h1.1
        omega
    · simp [dblN]
      omega
    · simp only [dblN, List.mem_append, List.mem_singleton] at hp
      rcases hp with hp | rfl
      · exact h3.2 p hp
      · exact h3.2 _ (List.getElem_mem _)
  · have hno : Calls Try.prog 71 #[.pointer (some ⟨g, 0, none⟩), .int .i64 i] w fun e w' => e = .returned (.bool false) ∧ Below w.heap.size w w' := by
      by_cases h4 : 0 < N.way.length
      · exact double_full h1 (by omega) (by have := h3.1; omega) i
      · exact double_off h1 (by omega) i
    refine hno.mono ?_
    rintro e w' ⟨he, hb⟩
    rw [decide_eq_false h0, dif_neg h0]
    exact ⟨he, ⟨⟨v, c, h1.below hb, hg, hc, hv⟩, h3⟩, KeepN.of_below hb⟩
theorem spoil_net (h : Net w B g N) (i a y : Int) : Calls Try.prog 80 #[.pointer (some ⟨g, 0, none⟩), .int .i64 i, .int .i64 a, .int .i64 y] w fun e w' => e = .returned (.bool (anyY N)) ∧ Net w' B g (spoiX N i a y) ∧ KeepN B w w' := by
  obtain ⟨⟨v, c, h1, hg, hc, hv⟩, h3⟩ := h
  unfold anyY spoiX
  by_cases h0 : 0 < N.way.length
  · obtain ⟨r, cap, rfl⟩ := h1.some h0
    have hp := h3.2 (N.way[atI i N.way.length]'(atI_lt i h0)) (List.getElem_mem _)
    refine (spoil_any h1 h0 (by have := h3.1; omega) i a y (by omega) (by omega)).mono ?_
    rintro e w' ⟨he, hn, hf⟩
    rw [decide_eq_true h0, dif_pos h0]
    refine ⟨he, ⟨⟨.slice (some ⟨r, 0, none⟩) N.way.length cap, c, ?_, hg, hc, hv⟩, ?_, fun p hp => ?_⟩, keepN h1 hg hc hv hf (fun j (hj : j = r) => .inr (.inl (by rw [hj]; rfl)))⟩
    · exact hn
    · simp [spN]
      exact h3.1
    · obtain ⟨j, hj, rfl⟩ := List.getElem_of_mem hp
      simp only [spN, List.getElem_set] at hj ⊢
      split
      · simp only [spP, spL_len]
        exact h3.2 _ (List.getElem_mem _)
      · exact h3.2 _ (List.getElem_mem _)
  · refine (spoil_off h1 (by omega) i a y).mono ?_
    rintro e w' ⟨he, hb⟩
    rw [decide_eq_false h0, dif_neg h0]
    exact ⟨he, ⟨⟨v, c, h1.below hb, hg, hc, hv⟩, h3⟩, KeepN.of_below hb⟩
theorem cut_net (h : Net w B g N) (a b : Int) (on : Bool) : Calls Try.prog 72 #[.pointer (some ⟨g, 0, none⟩), .int .i64 a, .int .i64 b, .bool on] w fun e w' => e = .returned (.bool (cutY N a b)) ∧ Net w' B g (cutX N a b on) ∧ KeepN B w w' := by
  obtain ⟨⟨v, c, h1, hg, hc, hv⟩, h3⟩ := h
  unfold cutX
  by_cases h0 : nodeP N a ∧ nodeP N b
  · have hy : cutY N a b = true := decide_eq_true h0
    refine (cut_any h1 a b on h0.1 h0.2).mono ?_
    rintro e w' ⟨he, hn, hf⟩
    rw [hy, if_pos rfl]
    exact ⟨he, ⟨⟨v, c, hn, hg, hc, hv⟩, h3⟩, keepN h1 hg hc hv hf (fun j hj => .inr (.inr hj))⟩
  · have hy : cutY N a b = false := decide_eq_false h0
    refine (cut_no h1 a b on h0).mono ?_
    rintro e w' ⟨he, rfl⟩
    rw [hy, if_neg (by decide)]
    exact ⟨he, ⟨⟨v, c, h1, hg, hc, hv⟩, h3⟩, KeepN.refl _ _⟩
end
end Go.Proofs.Ytljmaicobafgkaa
end
