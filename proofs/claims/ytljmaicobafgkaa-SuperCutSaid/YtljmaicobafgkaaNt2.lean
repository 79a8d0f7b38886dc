/- Chapter 13, net: slices.Delete of one parcel. -/
import Derived.Test.YtljmaicobafgkaaNt1
import Derived.Test.YtljmaicobafgkaaApp
import Derived.Test.YtljmaicobafgkaaOrd5
namespace Go.Proofs.Ytljmaicobafgkaa
open Go.RowKit

theorem wv_len (l : List Pcl) : (wayVals l).length = l.length * 3 := by
  induction l with
  | nil => rfl
  | cons p l ih =>
    have : wayVals (p :: l) = p.cells ++ wayVals l := by simp [wayVals]
    rw [this, List.length_append, ih]
    simp [Pcl.cells]
    omega
theorem wv_app (a b : List Pcl) : wayVals (a ++ b) = wayVals a ++ wayVals b := by simp [wayVals]
theorem wv_take (l : List Pcl) {k : Nat} (hk : k ≤ l.length) : (wayVals l).take (k * 3) = wayVals (l.take k) := by
  have h : wayVals l = wayVals (l.take k) ++ wayVals (l.drop k) := by rw [← wv_app, List.take_append_drop]
  rw [h, List.take_left' (by rw [wv_len, List.length_take]; congr 1; omega)]
theorem wv_drop (l : List Pcl) {k : Nat} (hk : k ≤ l.length) : (wayVals l).drop (k * 3) = wayVals (l.drop k) := by
  have h : wayVals l = wayVals (l.take k) ++ wayVals (l.drop k) := by rw [← wv_app, List.take_append_drop]
  rw [h, List.drop_left' (by rw [wv_len, List.length_take]; congr 1; omega)]
theorem wv_one (v : Value) {l : List Pcl} (h : v ∈ wayVals l) : v.oneCell' = true := by
  unfold wayVals at h
  rw [List.mem_flatMap] at h
  obtain ⟨p, _, hp⟩ := h
  simp only [Pcl.cells, List.mem_cons, List.not_mem_nil, or_false] at hp
  rcases hp with rfl | rfl | rfl <;> rfl
theorem wv_erase (l : List Pcl) {k : Nat} (hk : k < l.length) : wayVals (l.eraseIdx k) = (wayVals l).take (k * 3) ++ (wayVals l).drop ((k + 1) * 3) := by
  rw [wv_take l (by omega), wv_drop l (by omega), ← wv_app, List.eraseIdx_eq_take_drop_succ]
theorem info214 : (Try.prog.info? 214).map (fun i => (i.zero, i.size, i.bytes)) = some (some (.agg #[.int .i64 0, .int .i64 0, .string ⟨#[]⟩]), 3, 32) := by kernel_rfl
theorem info214_parts : ∃ i, Try.prog.info? 214 = some i ∧ i.zero = some (.agg #[.int .i64 0, .int .i64 0, .string ⟨#[]⟩]) ∧ i.size = 3 ∧ i.bytes = 32 := by
  have h := info214
  rcases e : Try.prog.info? 214 with _ | i
  · rw [e] at h
    cases h
  · rw [e] at h
    simp only [Option.map_some, Option.some.injEq, Prod.mk.injEq] at h
    exact ⟨i, rfl, h.1, h.2.1, h.2.2⟩
theorem zero214 (w : World) : (zeroValue 214).run Try.prog w = .ok (.agg #[.int .i64 0, .int .i64 0, .string ⟨#[]⟩]) w := by
  obtain ⟨i, hi, hz, _⟩ := info214_parts
  simp [zeroValue, typeInfo, hi, hz]
theorem wpList_clear_run {P : Program} {ops : Array Oper} {rest : List Oper} {o : Oper} {a : Act} {w : World} {Q : Exit → Act → World → Prop} (hgd : o.guard = none) (s : Operand) (t : TypeId)
    (ho : o.op = .call { callee := .builtin .clear, args := #[s], argTypes := #[t] }) {vs v' : Value} {w' : World} (hs : a.eval s = vs)
    (hrun : (Builtin.clear_ #[t] o.type #[vs]).run P w = .ok v' w') (h : wpList P ops Q rest (a.put o.dst v') w') : wpList P ops Q (o :: rest) a w := by
  refine wpList_plain hgd fun K hK => ?_
  unfold Oper.wp execOp
  simp only [ho, resolve, invoke, builtin, Sem.run_bind, Sem.run_pure, Result.andThen_ok, List.map_toArray, List.map_cons, List.map_nil, hs, hrun]
  exact hK _ _ h
def z214 : List Value := [.int .i64 0, .int .i64 0, .string ⟨#[]⟩]
theorem clear214 (w : World) (ty : TypeId) (g o c : Nat) (cur : Array Value) (hg : w.heap[g]? = some (.cells cur 214 (0, 0))) (ho : o + 3 ≤ cur.size) :
    (Builtin.clear_ #[207] ty #[.slice (some ⟨g, o, none⟩) 1 c]).run Try.prog w = .ok (.tuple #[]) (w.setRow g (cur.toList.take o ++ z214 ++ cur.toList.drop (o + 3)).toArray) := by
  have hst := run_storeCells_at Try.prog g o 214 z214 0 cur w hg (by simpa [z214] using ho) (by decide)
  have hzc : (Builtin.zeroCells (Value.cells (.agg #[.int .i64 0, .int .i64 0, .string ⟨#[]⟩])) 1).toList = z214 := by kernel_rfl
  simp only [Nat.add_zero] at hst
  simp [Builtin.clear_, run_underlying Try.underlying207, hzc, hst]
  rfl
section
variable {P : Program} {ops : Array Oper} {Q : Exit → Act → World → Prop}
/-- wp_region_d over a frame whose other slots stay behind a letter. -/
theorem wp_region_dF {id : Nat} (F : (Nat → Value) → (Nat → Value) → Act) (pos : Nat → Nat) (S : (Nat → Bool) → (Nat → Value) → World → Prop) (V : Nat → Value → World → Prop) {a : Act} {w : World}
    (hm : P.follows .mixedOrders = true) (hord : orderedB ops = true) (ha : a = F (fun j => a.tmps.getD j undef) (fun j => a.tmps.getD (pos j) undef)) (h0 : S (fun _ => false) (fun j => a.tmps.getD (pos j) undef) w.drew)
    (hput : ∀ u, Puts (F u) ops.toList 0) (hstep : ∀ u, StepsD P ops Q (F u) S V ops.toList 0)
    (hdone : ∀ u, (u = fun j => a.tmps.getD j undef) → ∀ d x w', S d x w' → (∀ i, i < ops.size → d i = true) → (∀ i, i < ops.size → V i (x i) w') → Q .normal (F u x) w') : (Code.region id ops true).wp P Q a w :=
  wp_region_d (F fun j => a.tmps.getD j undef) _ S V hm hord ha h0 (hput _) (hstep _) (hdone _ rfl)
end
/-- A whole variable, stored or loaded. -/
theorem wpList_loadv' {P : Program} {ops : Array Oper} {rest : List Oper} {o : Oper} {a : Act} {w : World} {Q : Exit → Act → World → Prop} (hgd : o.guard = none) (ty : TypeId) (x : Operand) (ho : o.op = .load ty x) {p v : Value} (hx : a.eval x = p)
    (hrun : (Instr.loadAt ty p).run P w = .ok v w) (h : wpList P ops Q rest (a.put o.dst v) w) : wpList P ops Q (o :: rest) a w :=
  wpList_plain hgd fun _ hK => by
    unfold Oper.wp execOp
    simp only [ho, hx, Sem.run_bind, hrun, Result.andThen_ok, Sem.run_pure]
    exact hK _ _ h
theorem wpList_storev' {P : Program} {ops : Array Oper} {rest : List Oper} {o : Oper} {a : Act} {w w' : World} {Q : Exit → Act → World → Prop} (hgd : o.guard = none) (ty : TypeId) (x y : Operand) (ho : o.op = .store ty x y) {p v : Value} (hx : a.eval x = p) (hy : a.eval y = v)
    (hrun : (Instr.storeAt ty p v).run P w = .ok () w') (h : wpList P ops Q rest (a.put o.dst undef) w') : wpList P ops Q (o :: rest) a w :=
  wpList_plain hgd fun _ hK => by
    unfold Oper.wp execOp
    simp only [ho, hx, hy, Sem.run_bind, hrun, Result.andThen_ok, Sem.run_pure]
    exact hK _ _ h
theorem wp_storev' {P : Program} {o : Oper} {a : Act} {w w' : World} {K : Act → World → Prop} {Q : Exit → Act → World → Prop} (ty : TypeId) (x y : Operand) (ho : o.op = .store ty x y) {p v : Value} (hx : a.eval x = p) (hy : a.eval y = v)
    (hrun : (Instr.storeAt ty p v).run P w = .ok () w') (h : K (a.put o.dst undef) w') : Oper.wp P o a w K Q := by
  unfold Oper.wp execOp
  simp only [ho, hx, hy, Sem.run_bind, hrun, Result.andThen_ok, Sem.run_pure]
  exact h
theorem store_whole {P : Program} {w : World} {g : Nat} {t ty : TypeId} {old cells : Array Value} (hg : w.heap[g]? = some (.cells old t (0, 0))) (hi : (P.info? ty).map (·.size) = some cells.size) (ho : old.size = cells.size) (h1 : cells.all (·.oneCell') = true) :
    (Instr.storeAt ty (.pointer (some ⟨g, 0, none⟩)) (.agg cells)).run P w = .ok () (w.setRow g cells) := by
  simp only [Instr.storeAt, Instr.sureAddr, Sem.run_bind, Sem.run_pure, Result.andThen_ok]
  exact run_storeVar_row w g t ty old cells hg hi ho h1
theorem setRow_at' {W : World} {g : Nat} {C C' : Array Value} {t : TypeId} (h : W.heap[g]? = some (.cells C t (0, 0))) : (W.setRow g C').heap[g]? = some (.cells C' t (0, 0)) := by
  simp [World.setRow, Array.getElem?_modify, h]
theorem setRow_size' (W : World) (g : Nat) (C' : Array Value) : (W.setRow g C').heap.size = W.heap.size := by simp [World.setRow]
theorem setRow_far' {W : World} {g k : Nat} {C' : Array Value} (h : k ≠ g) : (W.setRow g C').heap[k]? = W.heap[k]? := by
  simp [World.setRow, Array.getElem?_modify, Ne.symm h]
theorem setRow_fr' (W : World) (g : Nat) (C' : Array Value) : Fr (fun j => j = g) W (W.setRow g C') :=
  ⟨rfl, rfl, rfl, by rw [setRow_size']; exact Nat.le_refl _, fun _ _ hk => setRow_far' hk⟩
theorem wanted_none' {o : Oper} (h : o.guard = none) (f : Nat → Option Bool) : Region.wanted o f = true := by unfold Region.wanted; rw [h]
theorem slice_hi (w : World) (g n cap k : Nat) (hk : k ≤ cap) : (Instr.sliceAt 207 (.slice (some ⟨g, 0, none⟩) n cap) none (some (.int .i64 (k : Int))) none).run Try.prog w = .ok (.slice (some ⟨g, 0, none⟩) k cap) w := by
  have h0 : (if cap = 0 then some (⟨g, 0, none⟩ : Addr) else some ((⟨g, 0, none⟩ : Addr).add 0)) = some ⟨g, 0, none⟩ := by split <;> rfl
  simp [Instr.sliceAt, Instr.slice, Instr.sliceBounds, Instr.sliceBound, asIntOf, run_underlying Try.underlying207, h0]
  intro h
  omega
theorem slice_lo (w : World) (g n cap k : Nat) (hk : k ≤ n) : (Instr.sliceAt 207 (.slice (some ⟨g, 0, none⟩) n cap) (some (.int .i64 (k : Int))) none none).run Try.prog w = .ok (.slice (some (if cap = k then ⟨g, 0, none⟩ else ⟨g, k * 3, none⟩)) (n - k) (cap - k)) w := by
  have h0 : (if cap = k then some (⟨g, 0, none⟩ : Addr) else some ((⟨g, 0, none⟩ : Addr).add (k * 3))) = some (if cap = k then ⟨g, 0, none⟩ else ⟨g, k * 3, none⟩) := by
    split
    · rfl
    · rw [add_plain', Nat.zero_add]
  simp [Instr.sliceAt, Instr.slice, Instr.sliceBounds, Instr.sliceBound, asIntOf, run_underlying Try.underlying207, h0]
  intro h
  omega
theorem wpStill_slice {P : Program} {ops : Array Oper} {w : World} {Q : Act → Prop} {a : Act} {o : Oper} {rest : List Oper} (hgd : o.guard = none) (ty : TypeId) (x : Operand) (lo hi : Option Operand) (ho : o.op = .slice ty x lo hi none) {v u : Value} {l' h' : Option Value} (hx : a.eval x = v) (hl : lo.map a.eval = l') (hh : hi.map a.eval = h')
    (hrun : (Instr.sliceAt ty v l' h' none).run P w = .ok u w) (h : wpStill P ops w Q rest (a.put o.dst u)) : wpStill P ops w Q (o :: rest) a :=
  wpStill_step fun K hK => by
    rw [if_pos (wanted_none' hgd _)]
    unfold Oper.still execOp
    simp only [ho, hx, hl, hh, Option.map_none, Sem.run_bind, hrun, Result.andThen_ok, Sem.run_pure]
    exact ⟨rfl, hK _ h⟩
set_option maxHeartbeats 4000000 in
set_option maxRecDepth 100000 in
theorem delete_any {w : World} {g cap : Nat} {l : List Pcl} (h : w.ownsRow 0 214 3 (.slice (some ⟨g, 0, none⟩) l.length cap) l.length (wayVals l)) (k : Nat) (hk : k < l.length) :
    Calls Try.prog 175 #[.slice (some ⟨g, 0, none⟩) l.length cap, .int .i64 (k : Int), .int .i64 ((k + 1 : Nat) : Int)] w fun e w' => e = .returned (.slice (some ⟨g, 0, none⟩) (l.length - 1) cap) ∧ w'.ownsRow 0 214 3 (.slice (some ⟨g, 0, none⟩) (l.length - 1) cap) (l.eraseIdx k).length (wayVals (l.eraseIdx k)) ∧ Fr (fun j => j = g) w w' := by
  rcases h.2 with ⟨e, _⟩ | ⟨g', cap', cur, e, -, hc, hn, hm, hs, ht⟩
  · cases e
  cases e
  obtain ⟨i0, hi0, hz0, hz1, hz2⟩ := info214_parts
  have hxl := wv_len l
  have hcl : cur.toList.length = cap * 3 := by rw [Array.length_toList, hs]
  obtain ⟨news, hnews⟩ : ∃ news, news = (wayVals l).drop ((k + 1) * 3) := ⟨_, rfl⟩
  have hnl : news.length = (l.length - (k + 1)) * 3 := by rw [hnews, List.length_drop, hxl]; omega
  have hn1 : ∀ u ∈ news, u.oneCell' = true := fun u hu => wv_one u (List.mem_of_mem_drop (hnews ▸ hu))
  have hat : ∀ j u, news[j]? = some u → w.cell? ⟨g, (k + 1) * 3 + j, none⟩ = some u := fun j u hu => by
    rw [obj_cell hc, ← Array.getElem?_toList]
    rw [hnews, List.getElem?_drop, ← ht, List.getElem?_take] at hu
    split at hu
    · exact hu
    · cases hu
  obtain ⟨cur1, hc1⟩ : ∃ c, c = (cur.toList.take (k * 3) ++ news ++ cur.toList.drop (k * 3 + news.length)).toArray := ⟨_, rfl⟩
  have hs1 : cur1.size = cap * 3 := by rw [hc1]; simp; omega
  obtain ⟨ad, had⟩ : ∃ a : Addr, a = if cap = k + 1 then ⟨g, 0, none⟩ else ⟨g, (k + 1) * 3, none⟩ := ⟨_, rfl⟩
  have hat' : ∀ j u, news[j]? = some u → w.drew.cell? (ad.add j) = some u := fun j u hu => by
    rw [had, if_neg (by
      rintro e
      have : j < news.length := (List.getElem?_eq_some_iff.1 hu).1
      omega), add_plain']
    exact hat j u hu
  have hsl := slice_lo w.drew g l.length cap (k + 1) (by omega)
  have hsh := slice_hi w.drew g l.length cap k (by omega)
  rw [← had] at hsl
  have happ := run_append_room (P := Try.prog) w.drew 207 207 214 i0 Try.underlying207 hi0 g k cap cur hc ad (l.length - (k + 1)) (cap - (k + 1)) news (by rw [hz1]; exact hnl) hat' hn1 (by omega) (by rw [hz1, hnl]; omega)
  rw [hz1, ← hc1] at happ
  have hclr := clear214 (w.drew.setRow g cur1) 0 g ((l.length - 1) * 3) (cap - (l.length - 1)) cur1 (setRow_heap w.drew g cur cur1 214 (0, 0) hc) (by omega)
  obtain ⟨m, hm1⟩ : ∃ m, l.length = m + 1 := ⟨l.length - 1, by omega⟩
  rw [hm1, show k + (m + 1 - (k + 1)) = m from by omega, show m + 1 - (k + 1) = m - k from by omega] at happ
  rw [hm1, show m + 1 - 1 = m from rfl] at hclr
  rw [hm1, show m + 1 - (k + 1) = m - k from by omega] at hsl
  rw [hm1] at hsh
  obtain ⟨cur2, hc2⟩ : ∃ c, c = (cur1.toList.take (m * 3) ++ z214 ++ cur1.toList.drop (m * 3 + 3)).toArray := ⟨_, rfl⟩
  rw [← hc2] at hclr
  have hs2 : cur2.size = cap * 3 := by rw [hc2]; simp [z214]; omega
  have ht2 : cur2.toList.take (m * 3) = wayVals (l.eraseIdx k) := by
    have ea : (cur.toList.take (k * 3)).length = k * 3 := by rw [List.length_take]; omega
    have e1 : (cur.toList.take (k * 3) ++ news).length = m * 3 := by rw [List.length_append, ea, hnl]; omega
    have e2 : cur1.toList.take (m * 3) = cur.toList.take (k * 3) ++ news := by
      rw [hc1]
      exact List.take_left' e1
    have e3 : (wayVals l).take (k * 3) = cur.toList.take (k * 3) := by rw [← ht, List.take_take, Nat.min_eq_left (by omega)]
    rw [wv_erase l hk, e3, ← hnews, ← e2, hc2]
    show List.take (m * 3) (cur1.toList.take (m * 3) ++ z214 ++ _) = _
    rw [List.append_assoc]
    exact List.take_left' (by rw [e2]; exact e1)
  have hel : (l.eraseIdx k).length = m := by rw [List.length_eraseIdx, if_pos hk, hm1]; omega
  have hgl := obj_lt hc
  have hfin : Hid (∀ W : World, W.heap = ((w.drew.setRow g cur1).setRow g cur2).heap → W.ownsRow 0 214 3 (.slice (some ⟨g, 0, none⟩) m cap) (l.eraseIdx k).length (wayVals (l.eraseIdx k))) := hide (fun W hW => by
    rw [hel]
    exact ⟨by rw [wv_len, hel], .inr ⟨g, cap, cur2, rfl, Nat.zero_le _, by rw [hW]; exact setRow_heap _ g cur1 cur2 214 (0, 0) (setRow_heap w.drew g cur cur1 214 (0, 0) hc), by omega, hm, hs2, ht2⟩⟩)
  have hfr : Hid (Fr (fun j => j = g) w ((w.drew.setRow g cur1).setRow g cur2)) := hide ((((Fr.refl _ w).drew).trans (setRow_fr' _ g cur1) (fun i _ e => e)).trans (setRow_fr' _ g cur2) (fun i _ e => e))
  have HSL := hide hsl
  have HSH := hide hsh
  have HA := hide happ
  have hkn : k ≤ m := by omega
  have hnc : m + 1 ≤ cap := by omega
  have hnm : cap ≤ 9223372036854775807 := by simp only [maxLen] at hm; omega
  rw [hm1, show m + 1 - 1 = m from rfl]
  clear happ hsl hsh hel hs2 ht2 hc2 hc1 hs1 had hat hat' hnews hnl hn1 hxl hcl hm1 hgl ht hs hc hi0 hz0 hz1 hz2 h hk hn
  go_enter Try.func175, Try.ntmps175
  go_wp2_with fail
  refine wp_stl 6 (by kernel_rfl) (by kernel_rfl) ?_
  simp only [List.take_succ_cons, List.take_zero, List.drop_succ_cons, List.drop_zero]
  repeat (first | still_step | refine wpStill_slice rfl 207 (.tmp 20) none (some (.tmp 21)) rfl rfl rfl rfl HSH.out ?_ | refine wpStill_slice rfl 207 (.tmp 23) (some (.tmp 24)) none rfl rfl rfl rfl HSL.out ?_)
  refine wpStill_nil ?_
  go_wp2_with (at_builtin; refine wpList_append_run rfl (.tmp 22) (.tmp 25) 207 207 rfl rfl rfl HA.out ?_)
  go_ret
  exact ⟨rfl, hfin.out _ rfl, hfr.out⟩
end Go.Proofs.Ytljmaicobafgkaa
