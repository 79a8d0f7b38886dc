/- Chapter 14, calls: Forget, Call. -/
import Derived.Test.YthcnoamgkkbkcaaCaN
namespace Go.Proofs.Ythcnoamgkkbkcaa
open Go.RowKit

/-- What is left behind. -/
def CA (w : World) (B g t p c cm : Nat) (S' : CS) (x' : List Tm) (w' : World) : Prop := (∃ v' f', CV w' B g t p c cm v' S' x' f') ∧ COk S' x' ∧ Below B w w' ∧ Kp w w'
section
variable {w w' : World} {B g t p c cm : Nat} {v : Value} {S : CS} {x : List Tm} {f : Int → Option Nat}
theorem CV.self (h : CV w B g t p c cm v S x f) (hk : COk S x) : CA w B g t p c cm S x w := ⟨⟨v, f, h⟩, hk, Below.refl _ _, Kp.refl _⟩
theorem CV.bsz (h : CV w B g t p c cm v S x f) : B ≤ w.heap.size := by have := h.lt; have := h.bg; omega
theorem CA.below {S' : CS} {x' : List Tm} {w'' : World} (h : CA w B g t p c cm S' x' w') (hb : Below w'.heap.size w' w'') : CA w B g t p c cm S' x' w'' := by
  obtain ⟨⟨v', f', h1⟩, h2, h3, h4⟩ := h
  exact ⟨⟨v', f', h1.below hb⟩, h2, h3.trans (hb.mono h1.bsz), h4.trans (.of_below hb)⟩
theorem CA.first {S' : CS} {x' : List Tm} {w'' : World} (h : CA w' B g t p c cm S' x' w'') (hb : Below w.heap.size w w') (hB : B ≤ w.heap.size) : CA w B g t p c cm S' x' w'' := by
  obtain ⟨h1, h2, h3, h4⟩ := h
  exact ⟨h1, h2, (hb.mono hB).trans h3, (Kp.of_below hb).trans h4⟩
/-- The map was turned. -/
theorem CV.map (h : CV w B g t p c cm v S x f) (hf : Fr (fun j => j = cm) w w') {f' : Int → Option Nat} (hm : kC.mp w' cm f') {L' : List Ck} (hc : CF w B L' f') : CV w' B g t p c cm v ⟨S.me, S.next, L'⟩ x f' ∧ Below B w w' ∧ Kp w w' := by
  obtain ⟨es, k, h3⟩ := MK.mp_obj h.mp
  have hlt := h.lt
  have hB := h.bg
  have hfar : ∀ {q : Nat} {cs : Array Value} {ty : TypeId}, w.heap[q]? = some (.cells cs ty (0, 0)) → q ≠ cm := fun ho e => by
    rw [e, h3] at ho
    cases ho
  have hmf := h.mapFar
  refine ⟨⟨hf.obj h.o (hfar h.o), h.tx.other hf (fun e => hfar h.tx.1 e.symm) (fun e => hmf (.inr (.inl e))) h.ne (fun e => hmf (.inl e)), hm, ⟨hc.no, fun id b e => ?_, hc.inj⟩, h.ne, h.bg⟩, hf.below B (by omega) (fun q hq e => by omega), fun q cs ty h0 _ _ _ _ => hf.obj h0 (hfar h0)⟩
  obtain ⟨g1, m, g2, g3, g4⟩ := hc.yes id b e
  exact ⟨g1, m, g2, g3, hf.obj g4 (hfar g4)⟩
/-- The next number was turned. -/
theorem CV.nextTo (h : CV w B g t p c cm v S x f) (n : Int) : CV (w.setCell ⟨g, 1, none⟩ (.int .i64 n)) B g t p c cm v ⟨S.me, n, S.L⟩ x f ∧ Below B w (w.setCell ⟨g, 1, none⟩ (.int .i64 n)) ∧ Kp w (w.setCell ⟨g, 1, none⟩ (.int .i64 n)) := by
  have hf := (Fr.refl (fun j => j = g) w).setCell (p := ⟨g, 1, none⟩) (fun _ => rfl) (.int .i64 n)
  obtain ⟨n1, n2, n3, n4⟩ := h.tx.cells_far h.o (by decide) (by decide) (by decide)
  have hlt := h.lt
  have hB := h.bg
  have hne : ∀ {q : Nat} {cs : Array Value} {ty : TypeId}, w.heap[q]? = some (.cells cs ty (0, 0)) → ty ≠ 93 → q ≠ g := fun ho ht e => by
    rw [e, h.o] at ho
    simp only [Option.some.injEq, Obj.cells.injEq] at ho
    exact ht ho.2.1.symm
  refine ⟨⟨obj_set h.o 1 _, h.tx.other hf n1 n2 n3 n4, MK.mp_fr h.mp hf h.gm.symm, ⟨h.cf.no, fun id b e => ?_, h.cf.inj⟩, h.ne, h.bg⟩, hf.below B (by omega) (fun q hq e => by omega), fun q cs ty h0 _ _ _ t4 => hf.obj h0 (hne h0 t4)⟩
  obtain ⟨g1, m, g2, g3, g4⟩ := h.cf.yes id b e
  exact ⟨g1, m, g2, g3, hf.obj g4 (hne g4 (by decide))⟩
end
theorem cforget_nil (id : Int) (w : World) : Calls Try.prog 24 #[.pointer none, .int .i64 id] w fun e w' => e = .returned (.bool false) ∧ w = w' := by
  have HS := hide (cstate_nil id w)
  go_enter Try.func24, Try.ntmps24
  go_wp2_with fail
  refine HS.out.mono ?_
  rintro e w1 ⟨rfl, rfl⟩
  go_wp2
  go_ret
  exact ⟨rfl, rfl⟩
theorem filter_tms {L : List Ck} (hs : L.Pairwise fun a b => a.id < b.id) {k : Ck} (hk : k ∈ L) (ho : k.st ≠ 1) : tms (L.filter fun m => m.id != k.id) = tms L := by
  unfold tms
  congr 1
  rw [List.filter_filter]
  refine List.filter_congr fun m hm => ?_
  by_cases e : m.id = k.id
  · rw [ids_inj hs hm hk e]
    simp [Ck.opn, ho]
  · simp [e]
theorem COk.forget {S : CS} {x : List Tm} (h : COk S x) {k : Ck} (hk : k ∈ S.L) (ho : k.st ≠ 1) : COk ⟨S.me, S.next, S.L.filter fun m => m.id != k.id⟩ x :=
  ⟨h.ids.filter _, fun m hm => h.rng m (List.mem_filter.1 hm).1, fun m hm => h.sent m (List.mem_filter.1 hm).1, fun m hm => h.st m (List.mem_filter.1 hm).1, fun m hm => h.rep m (List.mem_filter.1 hm).1, h.nxt, by
    show x.Perm (tms (S.L.filter fun m => m.id != k.id))
    rw [filter_tms h.ids hk ho]
    exact h.per, h.tok⟩
set_option maxHeartbeats 4000000 in
set_option maxRecDepth 100000 in
theorem cforget_any {w : World} {B g t p c cm : Nat} {v : Value} {S : CS} {x : List Tm} {f : Int → Option Nat} (h : CV w B g t p c cm v S x f) (hk : COk S x) (id : Int) :
    Calls Try.prog 24 #[.pointer (some ⟨g, 0, none⟩), .int .i64 id] w fun e w' => e = .returned (.bool (cForget S id).2) ∧ CA w B g t p c cm (cForget S id).1 x w' := by
  have HST := hide (cstate_any h hk.ids id)
  unfold cState at HST
  unfold cForget
  rcases e : fnd S.L id with _ | k
  · rw [e] at HST
    simp only at HST ⊢
    have HC := hide (fun m => (h.self hk).below (w'' := w.drewN m) (below_drewN (Below.refl _ _) m))
    clear h hk
    go_enter Try.func24, Try.ntmps24
    go_wp2_with fail
    refine HST.out.mono ?_
    rintro e w1 ⟨rfl, m, rfl⟩
    go_wp2
    go_ret
    exact ⟨rfl, HC.out m⟩
  · rw [e] at HST
    simp only at HST ⊢
    obtain ⟨hmem, hid⟩ := fnd_some e
    by_cases h1 : k.st = 1
    · rw [if_pos h1]
      rw [h1] at HST
      have HC := hide (fun m => (h.self hk).below (w'' := w.drewN m) (below_drewN (Below.refl _ _) m))
      clear h hk h1 e
      go_enter Try.func24, Try.ntmps24
      go_wp2_with fail
      refine HST.out.mono ?_
      rintro e w1 ⟨rfl, m, rfl⟩
      go_wp2
      go_ret
      exact ⟨rfl, HC.out m⟩
    · rw [if_neg h1]
      have h0 : (k.st == 0) = false := by have := hk.st k hmem; simp; omega
      have h2 : (k.st == 1) = false := by simpa using h1
      have HFN := hide (show ∀ m, ∃ w', (Builtin.delete_ #[89, 3] 0 #[.map (some cm), .int .i64 id]).run Try.prog (w.drewN m) = .ok (.tuple #[]) w' ∧ CA w B g t p c cm ⟨S.me, S.next, S.L.filter fun k => k.id != id⟩ x w' from fun m => by
        have hm := h.below (w' := w.drewN m) (below_drewN (Below.refl _ _) m)
        obtain ⟨w2, hrun, hmp, hf, _⟩ := MK.run_del hm.mp id 0
        refine ⟨w2, hrun, ?_⟩
        have hcf : CF (w.drewN m) B (S.L.filter fun k => k.id != id) (upm f id none) := by
          refine ⟨fun j hj q hq eq => ?_, fun j b hj => ?_, fun i j b hi hj => ?_⟩
          · obtain ⟨q1, q2⟩ := List.mem_filter.1 hq
            by_cases hji : j = id
            · rw [hji] at eq
              simp [eq] at q2
            · rw [upm_other _ _ hji] at hj
              exact hm.cf.no j hj q q1 eq
          · by_cases hji : j = id
            · rw [hji, upm_same] at hj
              cases hj
            · rw [upm_other _ _ hji] at hj
              obtain ⟨g1, q, g2, g3, g4⟩ := hm.cf.yes j b hj
              exact ⟨g1, q, List.mem_filter.2 ⟨g2, by simp [g3, hji]⟩, g3, g4⟩
          · have e1 : i ≠ id := fun e => by rw [e, upm_same] at hi; cases hi
            have e2 : j ≠ id := fun e => by rw [e, upm_same] at hj; cases hj
            rw [upm_other _ _ e1] at hi
            rw [upm_other _ _ e2] at hj
            exact hm.cf.inj i j b hi hj
        obtain ⟨a1, a2, a3⟩ := hm.map hf hmp hcf
        have hok := hk.forget hmem (by simpa using h2)
        rw [hid] at hok
        exact CA.first (w' := w.drewN m) ⟨⟨_, _, a1⟩, hok, a2, a3⟩ (below_drewN (Below.refl _ _) m) h.bsz)
      have HO := hide (show ∀ m, (w.drewN m).cell? ⟨g, 2, none⟩ = some (.map (some cm)) from fun m => by
        have := obj_cell (obj_below h.o (below_drewN (Below.refl w.heap.size w) m)) 2
        simpa [cC] using this)
      clear h hk hmem hid e h1
      go_enter Try.func24, Try.ntmps24
      go_wp2_with fail
      refine HST.out.mono ?_
      rintro e w1 ⟨rfl, m, rfl⟩
      obtain ⟨w2, hrun, hca⟩ := HFN.out m
      have HRUN : Hid ((Builtin.delete_ #[89, 3] 0 #[.map (some cm), .int .i64 id]).run Try.prog (w.drewN m) = .ok (.tuple #[]) w2) := hide hrun
      have HCA := hide hca
      have z2 := HO.out m
      clear hrun hca
      go_wp2_with (refine wpList_mapdel (v' := .tuple #[]) (w' := w2) rfl (.tmp 22) (.tmp 23) 89 3 rfl rfl rfl ?_ ?_; exact HRUN.out)
      go_ret
      exact ⟨rfl, HCA.out⟩
def newK (S : CS) (dst : Int) (body : ByteArray) (now : Int) : Ck := ⟨S.next, dst, 1, 0, now, body, ByteArray.empty⟩
/-- While a call is laid into the map. -/
structure ClS (w0 : World) (B g t p c cm : Nat) (v : Value) (S : CS) (x : List Tm) (f : Int → Option Nat) (dst now : Int) (body : ByteArray) (d12 d13 : Bool) (x12 : Value) (w : World) : Prop where
  b : d13 = false → Below w0.heap.size w0 w
  k : d13 = false → d12 = true → ∃ b, x12 = .pointer (some ⟨b, 0, none⟩) ∧ w0.heap.size ≤ b ∧ w.heap[b]? = some (.cells (ckC (newK S dst body now)) 101 (0, 0))
  f : d13 = true → (∃ f', CV w B g t p c cm v ⟨S.me, S.next, S.L ++ [newK S dst body now]⟩ x f') ∧ Below B w0 w ∧ Kp w0 w
section
variable {w0 w : World} {B g t p c cm : Nat} {v : Value} {S : CS} {x : List Tm} {f : Int → Option Nat} {dst now : Int} {body : ByteArray} {d12 d13 : Bool} {x12 : Value}
theorem ClS.bx (h : ClS w0 B g t p c cm v S x f dst now body d12 d13 x12 w) (h13 : d13 = false) :
    ClS w0 B g t p c cm v S x f dst now body true d13 (.pointer (some ⟨w.heap.size, 0, none⟩)) (w.alloc (.cells #[.int .i64 dst, .int .i64 0, .int .i64 4, .string body, .int .i64 1, .string ⟨#[]⟩] 101)) := by
  have hb := h.b h13
  refine ⟨fun _ => hb.alloc hb.size _, fun _ _ => ⟨_, rfl, hb.size, obj_new _ _⟩, fun e => by rw [h13] at e; cases e⟩
theorem ClS.put (h : ClS w0 B g t p c cm v S x f dst now body d12 d13 x12 w) (_hk : ∀ k ∈ S.L, k.id < S.next) (hv : CV w0 B g t p c cm v S x f) (h13 : d13 = false) (h12 : d12 = true) :
    ∃ b, x12 = .pointer (some ⟨b, 0, none⟩) ∧ ∃ w', (Instr.mapUpdate 89 (.map (some cm)) (.int .i64 S.next) (.pointer (some ⟨b, 0, none⟩))).run Try.prog w = .ok () w' ∧
      ClS w0 B g t p c cm v S x f dst now body d12 true (.pointer (some ⟨b, 0, none⟩)) w' := by
  have hb := h.b h13
  obtain ⟨b, e, hb1, ho⟩ := h.k h13 h12
  have hv2 := hv.below hb
  obtain ⟨w', hrun, hmp, hf, _⟩ := MK.run_put hv2.mp S.next b
  refine ⟨b, e, w', hrun, (fun e => by cases e), (fun e => by cases e), fun _ => ?_⟩
  have hsz := hv.bsz
  have hblt : ∀ j d, f j = some d → d < w0.heap.size := fun j d ej => by
    obtain ⟨_, _, _, _, h4⟩ := hv.cf.yes j d ej
    exact obj_lt h4
  have hcf : CF w B (S.L ++ [newK S dst body now]) (upm f S.next (some b)) := by
    refine ⟨fun j hj q hq eq => ?_, fun j d hj => ?_, fun i j d hi hj => ?_⟩
    · have hjn : j ≠ S.next := fun e => by rw [e, upm_same] at hj; cases hj
      rw [upm_other _ _ hjn] at hj
      rcases List.mem_append.1 hq with hq | hq
      · exact hv2.cf.no j hj q hq eq
      · simp only [List.mem_singleton] at hq
        rw [hq] at eq
        exact hjn eq.symm
    · by_cases hjn : j = S.next
      · rw [hjn, upm_same] at hj
        cases hj
        exact ⟨by omega, newK S dst body now, by simp, hjn.symm, ho⟩
      · rw [upm_other _ _ hjn] at hj
        obtain ⟨g1, q, g2, g3, g4⟩ := hv2.cf.yes j d hj
        exact ⟨g1, q, List.mem_append_left _ g2, g3, g4⟩
    · by_cases e1 : i = S.next
      · by_cases e2 : j = S.next
        · rw [e1, e2]
        · rw [e1, upm_same] at hi
          rw [upm_other _ _ e2] at hj
          cases hi
          have := hblt j b hj
          omega
      · by_cases e2 : j = S.next
        · rw [e2, upm_same] at hj
          rw [upm_other _ _ e1] at hi
          cases hj
          have := hblt i b hi
          omega
        · rw [upm_other _ _ e1] at hi
          rw [upm_other _ _ e2] at hj
          exact hv.cf.inj i j d hi hj
  obtain ⟨a1, a2, a3⟩ := hv2.map hf hmp hcf
  exact ⟨⟨_, a1⟩, (hb.mono hsz).trans a2, (Kp.of_below hb).trans a3⟩
end
theorem COk.call {S : CS} {x : List Tm} (h : COk S x) {dst now : Int} {body : ByteArray} (hd : ¬ badN now) (hn : S.next < 2147483647) (hf : x.length < 64) : COk ⟨S.me, S.next + 1, S.L ++ [newK S dst body now]⟩ (tIns x ⟨S.next, now⟩) := by
  have hno : ∀ y ∈ x, y.id ≠ S.next := fun y hy e => by
    obtain ⟨k, hk, _, e2⟩ := tms_mem.1 (h.per.mem_iff.1 hy)
    have := h.rng k hk
    rw [← e2] at e
    simp only [Ck.tm] at e
    omega
  have hnx := h.nxt
  refine ⟨?_, fun k hk => ?_, fun k hk => ?_, fun k hk => ?_, fun k hk e => ?_, by simp only; omega, ?_, h.tok.ins hno hf ⟨hnx.1, by unfold badN at hd; simp only; omega⟩⟩
  · rw [List.pairwise_append]
    refine ⟨h.ids, by simp, fun a ha b hb => ?_⟩
    simp only [List.mem_singleton] at hb
    rw [hb]
    exact (h.rng a ha).2
  · simp only at hk ⊢
    rcases List.mem_append.1 hk with hk | hk
    · have := h.rng k hk
      omega
    · simp only [List.mem_singleton] at hk
      rw [hk]
      simp only [newK]
      omega
  · rcases List.mem_append.1 hk with hk | hk
    · exact h.sent k hk
    · simp only [List.mem_singleton] at hk
      rw [hk]
      exact Nat.zero_le _
  · rcases List.mem_append.1 hk with hk | hk
    · exact h.st k hk
    · simp only [List.mem_singleton] at hk
      rw [hk]
      exact .inl rfl
  · rcases List.mem_append.1 hk with hk | hk
    · exact h.rep k hk e
    · simp only [List.mem_singleton] at hk
      rw [hk]
      rfl
  · have e1 : tms (S.L ++ [newK S dst body now]) = tms S.L ++ [⟨S.next, now⟩] := by
      unfold tms
      rw [List.filter_append, List.map_append]
      rfl
    show (tIns x ⟨S.next, now⟩).Perm (tms (S.L ++ [newK S dst body now]))
    rw [e1]
    exact (tIns_perm x _).trans ((h.per.cons _).trans (List.perm_append_singleton _ _).symm)
def clA (g : Nat) (dst now : Int) (body : ByteArray) (u x : Nat → Value) : Act := ⟨#[.pointer (some ⟨g, 0, none⟩), .int .i64 dst, .string body, .int .i64 now, u 4, u 5, u 6, u 7, u 8, u 9, u 10, u 11, u 12, u 13, u 14, u 15, u 16, u 17, u 18, u 19, u 20, u 21, u 22, u 23, u 24, u 25, u 26, u 27, u 28, u 29, u 30, u 31, u 32, u 33, u 34, u 35, u 36, u 37, u 38, u 39, u 40, u 41, u 42, u 43, u 44, u 45, u 46, u 47, u 48, x 0, x 1, x 2, x 3, x 4, x 5, x 6, x 7, x 8, x 9, x 10, x 11, x 12, u 62, u 63, u 64, u 65, u 66, u 67, u 68, u 69, u 70, u 71, u 72, u 73], []⟩
def clV (g cm : Nat) (nx dst : Int) (body : ByteArray) (qx : Nat) (qw : Value) : Prop :=
  match qx with
  | 0 => qw = .pointer (some ⟨g, 0, none⟩)
  | 1 => qw = .pointer (some ⟨g, 0, none⟩)
  | 2 => qw = .pointer (some ⟨g, 2, none⟩)
  | 3 => qw = .map (some cm)
  | 4 => qw = .pointer (some ⟨g, 0, none⟩)
  | 5 => qw = .pointer (some ⟨g, 0, none⟩)
  | 6 => qw = .pointer (some ⟨g, 1, none⟩)
  | 7 => qw = .int .i64 nx
  | 8 => qw = .int .i64 dst
  | 9 => qw = .string body
  | 10 => qw = .agg #[.int .i64 1, .string ⟨#[]⟩]
  | 11 => qw = .agg #[.int .i64 dst, .int .i64 0, .int .i64 4, .string body, .int .i64 1, .string ⟨#[]⟩]
  | _ => True
theorem ccall_nil (dst now : Int) (body : ByteArray) (w : World) : Calls Try.prog 17 #[.pointer none, .int .i64 dst, .string body, .int .i64 now] w fun e w' => e = .returned (.tuple #[.int .i64 0, .int .i64 1]) ∧ w = w' := by
  go_enter Try.func17, Try.ntmps17
  go_wp2
  go_ret2
  exact ⟨rfl, rfl⟩
set_option maxRecDepth 100000 in
theorem ccall_bad {g : Nat} {dst now : Int} {body : ByteArray} (w : World) (h : dst < 0 ∨ 63 < dst ∨ badN now) : Calls Try.prog 17 #[.pointer (some ⟨g, 0, none⟩), .int .i64 dst, .string body, .int .i64 now] w fun e w' => e = .returned (.tuple #[.int .i64 0, .int .i64 1]) ∧ w = w' := by
  have HH := hide h
  clear h
  by_cases h0 : dst < 0
  · go_enter Try.func17, Try.ntmps17
    go_wp2
    go_ret2
    exact ⟨rfl, rfl⟩
  by_cases h1 : 63 < dst
  · go_enter Try.func17, Try.ntmps17
    go_wp2
    go_ret2
    exact ⟨rfl, rfl⟩
  have HMO := hide (moment_no (show badN now from by rcases HH.out with h | h | h <;> first | exact h | omega) w)
  go_enter Try.func17, Try.ntmps17
  go_wp2_with fail
  refine HMO.out.mono ?_
  rintro e w1 ⟨rfl, rfl⟩
  go_wp2
  go_ret2
  exact ⟨rfl, rfl⟩
set_option maxRecDepth 100000 in
theorem ccall_size {g : Nat} {dst now : Int} {body : ByteArray} (w : World) (h : ¬ (dst < 0 ∨ 63 < dst ∨ badN now)) (hs : 4096 < body.size) : Calls Try.prog 17 #[.pointer (some ⟨g, 0, none⟩), .int .i64 dst, .string body, .int .i64 now] w fun e w' => e = .returned (.tuple #[.int .i64 0, .int .i64 2]) ∧ w = w' := by
  have h0 : ¬ dst < 0 := by omega
  have h1 : ¬ 63 < dst := by omega
  have HMO := hide (moment_ok (show ¬ badN now from fun hh => h (.inr (.inr hh))) w)
  have hsi : (4096 : Int) < (body.size : Int) := by omega
  clear h hs
  go_enter Try.func17, Try.ntmps17
  go_wp2_with fail
  refine HMO.out.mono ?_
  rintro e w1 ⟨rfl, rfl⟩
  go_wp2
  go_ret2
  exact ⟨rfl, rfl⟩
set_option maxHeartbeats 8000000 in
set_option maxRecDepth 100000 in
theorem ccall_any {w : World} {B g t p c cm : Nat} {v : Value} {S : CS} {x : List Tm} {f : Int → Option Nat} (h : CV w B g t p c cm v S x f) (hk : COk S x) (dst now : Int) (body : ByteArray) :
    Calls Try.prog 17 #[.pointer (some ⟨g, 0, none⟩), .int .i64 dst, .string body, .int .i64 now] w fun e w' => e = .returned (.tuple #[.int .i64 (cCall S dst body now).2.1, .int .i64 (cCall S dst body now).2.2]) ∧ ∃ x', CA w B g t p c cm (cCall S dst body now).1 x' w' := by
  unfold cCall
  by_cases hb : dst < 0 ∨ 63 < dst ∨ badN now
  · rw [if_pos hb]
    refine (ccall_bad w hb).mono ?_
    rintro e w' ⟨rfl, rfl⟩
    exact ⟨rfl, x, h.self hk⟩
  rw [if_neg hb]
  by_cases hs : 4096 < body.size
  · rw [if_pos hs]
    refine (ccall_size w hb hs).mono ?_
    rintro e w' ⟨rfl, rfl⟩
    exact ⟨rfl, x, h.self hk⟩
  rw [if_neg hs]
  have h0 : ¬ dst < 0 := by omega
  have h1 : ¬ 63 < dst := by omega
  have hnow : ¬ badN now := fun hh => hb (.inr (.inr hh))
  have HMO := hide (moment_ok hnow w)
  have hsi : ¬ (4096 : Int) < (body.size : Int) := by omega
  obtain ⟨nx, hnx⟩ : ∃ n, n = S.next := ⟨_, rfl⟩
  have HN := hide hnx.symm
  have HW := hide hnow
  have z1 := obj_cell h.o 1
  have z3 := obj_cell h.o 3
  simp only [cC, List.getElem?_toArray, List.getElem?_cons_zero, List.getElem?_cons_succ] at z1 z3
  rw [← hnx] at z1
  by_cases hf1 : 2147483647 ≤ nx
  · rw [if_pos (.inl (by rw [← hnx]; exact hf1))]
    have HC := hide (fun m => (h.self hk).below (w'' := w.drewN m) (below_drewN (Below.refl _ _) m))
    clear h hk hb hs hnx z3 hnow
    go_enter Try.func17, Try.ntmps17
    go_wp2_with fail
    refine HMO.out.mono ?_
    rintro e w1 ⟨rfl, rfl⟩
    go_wp2_with fail
    go_quiet (fail)
    go_wp2
    go_ret2
    exact ⟨rfl, _, HC.out _⟩
  have hno : tStop x nx = x := tStop_none fun y hy e => by
    obtain ⟨k, hk1, _, e2⟩ := tms_mem.1 (hk.per.mem_iff.1 hy)
    have := hk.rng k hk1
    rw [← e2] at e
    simp only [Ck.tm] at e
    omega
  have hnb : ¬ badT nx now := by
    have := hk.nxt
    unfold badT
    unfold badN at hnow
    omega
  have HSET := hide (tset_any (h.tx.below (show Below w.heap.size w w.drew from (Below.refl _ _).drew)) hk.tok nx now)
  unfold tSet at HSET
  rw [if_neg hnb, hno] at HSET
  have HV := hide h
  have HK := hide hk
  by_cases hf2 : 64 ≤ x.length
  · rw [if_pos (.inr (by rw [← hk.xlen]; exact hf2))]
    rw [if_pos hf2] at HSET
    clear h hk hb hs hnx hnow hno hnb hf2
    go_enter Try.func17, Try.ntmps17
    go_wp2_with fail
    refine HMO.out.mono ?_
    rintro e w1 ⟨rfl, rfl⟩
    go_wp2_with fail
    refine wp_stl 15 (by kernel_rfl) (by kernel_rfl) ?_
    simp only [List.take_succ_cons, List.take_zero, List.drop_succ_cons, List.drop_zero]
    repeat still_step
    refine wpStill_nil ?_
    clear z1 z3
    go_wp2_with fail
    refine HSET.out.mono ?_
    rintro e w2 ⟨rfl, ha⟩
    have HC := hide (show CA w B g t p c cm S x w2 from CA.first (w' := w.drew) (by
      obtain ⟨⟨v', a1⟩, a2, a3⟩ := (HV.out.below (show Below w.heap.size w w.drew from (Below.refl _ _).drew)).timers ha
      exact ⟨⟨_, _, a1⟩, HK.out, a2, a3⟩) (Below.refl _ _).drew HV.out.bsz)
    clear ha
    go_wp2
    go_ret2
    exact ⟨rfl, _, HC.out⟩
  · rw [if_neg (by rw [← hk.xlen, ← hnx]; omega), ← hnx]
    rw [if_neg hf2] at HSET
    have HOKC := hide (hk.call (dst := dst) (body := body) hnow (by omega) (by omega))
    have HOK := hide (fun k hk1 => (hk.rng k hk1).2)
    have HNX := hide (show 0 ≤ nx ∧ nx < 2147483647 from by have := hk.nxt; omega)
    have HVW := hide h.bsz
    clear h hk hb hs hno hnb hf2 hnx hnow
    go_enter Try.func17, Try.ntmps17
    go_wp2_with fail
    refine HMO.out.mono ?_
    rintro e w1 ⟨rfl, rfl⟩
    go_wp2_with fail
    refine wp_stl 15 (by kernel_rfl) (by kernel_rfl) ?_
    simp only [List.take_succ_cons, List.take_zero, List.drop_succ_cons, List.drop_zero]
    repeat still_step
    refine wpStill_nil ?_
    clear z1 z3
    go_wp2_with fail
    refine HSET.out.mono ?_
    rintro e w1 ⟨rfl, ha⟩
    obtain ⟨⟨v1, hv1⟩, hbb, hkp⟩ := (HV.out.below (show Below w.heap.size w w.drew from (Below.refl _ _).drew)).timers ha
    obtain ⟨x1, hx1⟩ : ∃ y, y = tIns x ⟨nx, now⟩ := ⟨_, rfl⟩
    rw [← hx1] at hv1
    have HX1 := hide hx1
    have HV := hide hv1
    have HBB := hide hbb
    have HKP := hide hkp
    have HS0 := hide (show ClS w1 B g t p c cm v1 S x1 f dst now body false false undef w1.drew from ⟨fun _ => (Below.refl _ _).drew, (fun _ e => by cases e), (fun e => by cases e)⟩)
    clear ha hv1 hbb hkp hx1
    go_wp2_with fail
    refine wp_region_c (clA g dst now body) (fun j => #[49, 50, 51, 52, 53, 54, 55, 56, 57, 58, 59, 60, 61, 0].getD j 0) (fun d x' w' => ClS w1 B g t p c cm v1 S x1 f dst now body (d 12) (d 13) (x' 12) w') (fun qi qv => clV g cm nx dst body qi qv) (by kernel_rfl) (by kernel_rfl) rfl HS0.out ?_ ?_ ?_
    · exact fun u => ⟨fun x v => rfl, fun x v => rfl, fun x v => rfl, fun x v => rfl, fun x v => rfl, fun x v => rfl, fun x v => rfl, fun x v => rfl, fun x v => rfl, fun x v => rfl, fun x v => rfl, fun x v => rfl, fun x v => rfl, fun x v => rfl, trivial⟩
    · refine fun u => ⟨?_, ?_, ?_, ?_, ?_, ?_, ?_, ?_, ?_, ?_, ?_, ?_, ?_, ?_, trivial⟩
      · intro d x w' hS hdi hv hp hcl K hK
        have hS1 : ClS w1 B g t p c cm v1 S x1 f dst now body (d 12) (d 13) (x 12) w' := hS
        refine ⟨rfl, ?_⟩
        unfold clA at hK ⊢
        go_wp2
        exact hK (.pointer (some ⟨g, 0, none⟩)) w' (show ClS w1 B g t p c cm v1 S x1 f dst now body (d 12) (d 13) (x 12) w' from hS1) rfl
      · intro d x w' hS hdi hv hp hcl K hK
        have d0 : x 0 = .pointer (some ⟨g, 0, none⟩) := hv 0 (hp 0 (by kernel_rfl))
        have hS1 : ClS w1 B g t p c cm v1 S x1 f dst now body (d 12) (d 13) (x 12) w' := hS
        refine ⟨rfl, ?_⟩
        unfold clA at hK ⊢
        simp only [d0] at hK ⊢
        go_wp2
        exact hK (.pointer (some ⟨g, 0, none⟩)) w' (show ClS w1 B g t p c cm v1 S x1 f dst now body (d 12) (d 13) (x 12) w' from hS1) rfl
      · intro d x w' hS hdi hv hp hcl K hK
        have d0 : x 1 = .pointer (some ⟨g, 0, none⟩) := hv 1 (hp 1 (by kernel_rfl))
        have hS1 : ClS w1 B g t p c cm v1 S x1 f dst now body (d 12) (d 13) (x 12) w' := hS
        refine ⟨rfl, ?_⟩
        unfold clA at hK ⊢
        simp only [d0] at hK ⊢
        go_wp2
        exact hK (.pointer (some ⟨g, 2, none⟩)) w' (show ClS w1 B g t p c cm v1 S x1 f dst now body (d 12) (d 13) (x 12) w' from hS1) rfl
      · intro d x w' hS hdi hv hp hcl K hK
        have d0 : x 2 = .pointer (some ⟨g, 2, none⟩) := hv 2 (hp 2 (by kernel_rfl))
        have hS1 : ClS w1 B g t p c cm v1 S x1 f dst now body (d 12) (d 13) (x 12) w' := hS
        have n13 : ¬ d 13 = true := fun e => by have := hcl 13 3 e (by kernel_rfl); rw [hdi] at this; cases this
        have z2 := obj_cell (obj_below HV.out.o (hS1.b (by simpa using n13))) 2
        simp only [cC, List.getElem?_toArray, List.getElem?_cons_zero, List.getElem?_cons_succ, HN.out] at z2
        refine ⟨rfl, ?_⟩
        unfold clA at hK ⊢
        simp only [d0] at hK ⊢
        go_wp2
        exact hK (.map (some cm)) w' (show ClS w1 B g t p c cm v1 S x1 f dst now body (d 12) (d 13) (x 12) w' from hS1) rfl
      · intro d x w' hS hdi hv hp hcl K hK
        have hS1 : ClS w1 B g t p c cm v1 S x1 f dst now body (d 12) (d 13) (x 12) w' := hS
        refine ⟨rfl, ?_⟩
        unfold clA at hK ⊢
        go_wp2
        exact hK (.pointer (some ⟨g, 0, none⟩)) w' (show ClS w1 B g t p c cm v1 S x1 f dst now body (d 12) (d 13) (x 12) w' from hS1) rfl
      · intro d x w' hS hdi hv hp hcl K hK
        have d0 : x 4 = .pointer (some ⟨g, 0, none⟩) := hv 4 (hp 4 (by kernel_rfl))
        have hS1 : ClS w1 B g t p c cm v1 S x1 f dst now body (d 12) (d 13) (x 12) w' := hS
        refine ⟨rfl, ?_⟩
        unfold clA at hK ⊢
        simp only [d0] at hK ⊢
        go_wp2
        exact hK (.pointer (some ⟨g, 0, none⟩)) w' (show ClS w1 B g t p c cm v1 S x1 f dst now body (d 12) (d 13) (x 12) w' from hS1) rfl
      · intro d x w' hS hdi hv hp hcl K hK
        have d0 : x 5 = .pointer (some ⟨g, 0, none⟩) := hv 5 (hp 5 (by kernel_rfl))
        have hS1 : ClS w1 B g t p c cm v1 S x1 f dst now body (d 12) (d 13) (x 12) w' := hS
        refine ⟨rfl, ?_⟩
        unfold clA at hK ⊢
        simp only [d0] at hK ⊢
        go_wp2
        exact hK (.pointer (some ⟨g, 1, none⟩)) w' (show ClS w1 B g t p c cm v1 S x1 f dst now body (d 12) (d 13) (x 12) w' from hS1) rfl
      · intro d x w' hS hdi hv hp hcl K hK
        have d0 : x 6 = .pointer (some ⟨g, 1, none⟩) := hv 6 (hp 6 (by kernel_rfl))
        have hS1 : ClS w1 B g t p c cm v1 S x1 f dst now body (d 12) (d 13) (x 12) w' := hS
        have n13 : ¬ d 13 = true := fun e => by have := hcl 13 7 e (by kernel_rfl); rw [hdi] at this; cases this
        have z1 := obj_cell (obj_below HV.out.o (hS1.b (by simpa using n13))) 1
        simp only [cC, List.getElem?_toArray, List.getElem?_cons_zero, List.getElem?_cons_succ, HN.out] at z1
        refine ⟨rfl, ?_⟩
        unfold clA at hK ⊢
        simp only [d0] at hK ⊢
        go_wp2
        exact hK (.int .i64 nx) w' (show ClS w1 B g t p c cm v1 S x1 f dst now body (d 12) (d 13) (x 12) w' from hS1) rfl
      · intro d x w' hS hdi hv hp hcl K hK
        have hS1 : ClS w1 B g t p c cm v1 S x1 f dst now body (d 12) (d 13) (x 12) w' := hS
        refine ⟨rfl, ?_⟩
        unfold clA at hK ⊢
        go_wp2
        exact hK (.int .i64 dst) w' (show ClS w1 B g t p c cm v1 S x1 f dst now body (d 12) (d 13) (x 12) w' from hS1) rfl
      · intro d x w' hS hdi hv hp hcl K hK
        have hS1 : ClS w1 B g t p c cm v1 S x1 f dst now body (d 12) (d 13) (x 12) w' := hS
        refine ⟨rfl, ?_⟩
        unfold clA at hK ⊢
        go_wp2
        exact hK (.string body) w' (show ClS w1 B g t p c cm v1 S x1 f dst now body (d 12) (d 13) (x 12) w' from hS1) rfl
      · intro d x w' hS hdi hv hp hcl K hK
        have hS1 : ClS w1 B g t p c cm v1 S x1 f dst now body (d 12) (d 13) (x 12) w' := hS
        refine ⟨rfl, ?_⟩
        unfold clA at hK ⊢
        go_wp2
        exact hK (.agg #[.int .i64 1, .string ⟨#[]⟩]) w' (show ClS w1 B g t p c cm v1 S x1 f dst now body (d 12) (d 13) (x 12) w' from hS1) rfl
      · intro d x w' hS hdi hv hp hcl K hK
        have d0 : x 8 = .int .i64 dst := hv 8 (hp 8 (by kernel_rfl))
        have d1 : x 9 = .string body := hv 9 (hp 9 (by kernel_rfl))
        have d2 : x 10 = .agg #[.int .i64 1, .string ⟨#[]⟩] := hv 10 (hp 10 (by kernel_rfl))
        have hS1 : ClS w1 B g t p c cm v1 S x1 f dst now body (d 12) (d 13) (x 12) w' := hS
        refine ⟨rfl, ?_⟩
        unfold clA at hK ⊢
        simp only [d0, d1, d2] at hK ⊢
        go_wp2
        exact hK (.agg #[.int .i64 dst, .int .i64 0, .int .i64 4, .string body, .int .i64 1, .string ⟨#[]⟩]) w' (show ClS w1 B g t p c cm v1 S x1 f dst now body (d 12) (d 13) (x 12) w' from hS1) rfl
      · intro d x w' hS hdi hv hp hcl K hK
        have d0 : x 11 = .agg #[.int .i64 dst, .int .i64 0, .int .i64 4, .string body, .int .i64 1, .string ⟨#[]⟩] := hv 11 (hp 11 (by kernel_rfl))
        have hS1 : ClS w1 B g t p c cm v1 S x1 f dst now body (d 12) (d 13) (x 12) w' := hS
        have n13 : ¬ d 13 = true := fun e => by have := hcl 13 12 e (by kernel_rfl); rw [hdi] at this; cases this
        refine ⟨rfl, ?_⟩
        unfold clA at hK ⊢
        simp only [d0] at hK ⊢
        go_wp2
        exact hK _ _ (show ClS w1 B g t p c cm v1 S x1 f dst now body true (d 13) _ _ from hS1.bx (by simpa using n13)) trivial
      · intro d x w' hS hdi hv hp hcl K hK
        have d0 : x 3 = .map (some cm) := hv 3 (hp 3 (by kernel_rfl))
        have d1 : x 7 = .int .i64 nx := hv 7 (hp 7 (by kernel_rfl))
        have hS1 : ClS w1 B g t p c cm v1 S x1 f dst now body (d 12) (d 13) (x 12) w' := hS
        have y12 : d 12 = true := hp 12 (by kernel_rfl)
        obtain ⟨b, e12, w4, hrun, hS2⟩ := hS1.put HOK.out HV.out (by simpa using hdi) y12
        rw [HN.out] at hrun
        refine ⟨rfl, ?_⟩
        unfold clA at hK ⊢
        simp only [d0, d1] at hK ⊢
        exact wp_mapup 89 (.tmp 52) (.tmp 56) (.tmp 61) rfl rfl rfl e12 hrun (hK undef _ (show ClS w1 B g t p c cm v1 S x1 f dst now body (d 12) true (x 12) _ from by rw [e12]; exact hS2) trivial)
    · intro u hu d xx w5 hS hd hv
      have hS1 : ClS w1 B g t p c cm v1 S x1 f dst now body (d 12) (d 13) (xx 12) w5 := hS
      obtain ⟨⟨f', hcv⟩, hb5, hk5⟩ := hS1.f (hd 13 (by decide))
      obtain ⟨n1, n2, n3⟩ := hcv.nextTo (nx + 1)
      have HFIN := hide (show CA w B g t p c cm ⟨S.me, nx + 1, S.L ++ [⟨nx, dst, 1, 0, now, body, ByteArray.empty⟩]⟩ x1 (w5.setCell ⟨g, 1, none⟩ (.int .i64 (nx + 1))) from CA.first (w' := w.drew) (by
        have hok := HOKC.out
        rw [HN.out] at hok
        have e9 : newK S dst body now = ⟨nx, dst, 1, 0, now, body, ByteArray.empty⟩ := by unfold newK; rw [HN.out]
        rw [e9] at hok n1
        exact ⟨⟨_, _, n1⟩, by rw [HX1.out]; exact hok, HBB.out.trans (hb5.trans n2), HKP.out.trans (hk5.trans n3)⟩) (Below.refl _ _).drew HVW.out)
      have z1 := obj_cell hcv.o 1
      have t1 := obj_frozen hcv.o 1
      have y1 := obj_cell n1.o 1
      simp only [cC, List.getElem?_toArray, List.getElem?_cons_zero, List.getElem?_cons_succ, HN.out] at z1 y1
      have hk1 : IntKind.i64.wrap (nx + 1) = nx + 1 := by rw [IntKind.wrap_i64]; have := HNX.out; omega
      have hk2 : IntKind.i64.wrap nx = nx := by rw [IntKind.wrap_i64]; have := HNX.out; omega
      clear hS hS1 hd hv hu hcv hb5 hk5 n1 n2 n3
      unfold clA
      go_wp2
      go_ret2
      exact ⟨rfl, _, HFIN.out⟩
end Go.Proofs.Ythcnoamgkkbkcaa
