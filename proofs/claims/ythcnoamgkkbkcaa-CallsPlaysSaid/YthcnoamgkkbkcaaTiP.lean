/- Chapter 07, timers: one is put at a pile's end, one is taken from there. -/
import Derived.Test.YthcnoamgkkbkcaaTiS
namespace Go.Proofs.Ythcnoamgkkbkcaa
open Go.RowKit

/-- x[:m] of a row. -/
theorem EK.row_cut {P : Program} {α : Type} {K : EK P α} {w : World} {B r n cap : Nat} {l : List α} (h : K.row w B (.slice (some ⟨r, 0, none⟩) n cap) l) {m : Nat} (hm : m ≤ l.length) : K.row w B (.slice (some ⟨r, 0, none⟩) m cap) (l.take m) := by
  rcases h.2 with ⟨e, _⟩ | ⟨g, cap', cur, e, hb, hc, hn, hm2, hs, ht⟩
  · cases e
  cases e
  have hlen : (l.take m).length = m := by rw [List.length_take]; omega
  unfold EK.row
  rw [hlen]
  refine ⟨by rw [EK.vlen, hlen], .inr ⟨r, cap, cur, rfl, hb, hc, by omega, hm2, hs, ?_⟩⟩
  rw [EK.vtake hm, ← ht, List.take_take, Nat.min_eq_left (Nat.mul_le_mul_right _ hm)]
structure PuS (w0 : World) (B p c q : Nat) (v : Value) (l : List Tm) (t : Tm) (f : Int → Option Int) (e6 e7 e10 : Bool) (x6 x7 : Value) (w : World) : Prop where
  fmp : kA.mp w c f
  fo : w.heap[p]? = some (.cells #[if e10 = true then x7 else v, .map (some c), byT] 149 (0, 0))
  fq : w.heap[q]? = some (.cells #[.int .i64 t.id, .int .i64 t.at_] 153 (0, 0))
  fa : e7 = false → kT.row w B v l
  fb : e6 = true → e7 = false → ∃ b, x6 = .slice (some ⟨b, 0, none⟩) 1 1 ∧ w.heap[b]? = some (.cells #[.int .i64 t.id, .int .i64 t.at_] 153 (0, 0))
  fd : e7 = true → kT.row w B x7 (l ++ [t]) ∧ (x7.ownBlock = v.ownBlock ∨ ∃ k, x7.ownBlock = some k ∧ w0.heap.size ≤ k)
  ffr : Fr (fun k => v.ownBlock = some k ∨ k = p) w0 w
  fB : B ≤ w.heap.size
  vq : ∀ k, v.ownBlock = some k → k ≠ p ∧ k ≠ c ∧ k ≠ q
  pc : p ≠ c ∧ p ≠ q
section
variable {w0 w : World} {B p c q : Nat} {v : Value} {l : List Tm} {t : Tm} {f : Int → Option Int} {e6 e7 e10 : Bool} {x6 x7 : Value}
theorem PuS.bs (h : PuS w0 B p c q v l t f e6 e7 e10 x6 x7 w) (h7 : e7 = false) (h10 : e10 = false) : PuS w0 B p c q v l t f true e7 e10 (.slice (some ⟨w.heap.size, 0, none⟩) 1 1) x7 (w.alloc (.cells #[.int .i64 t.id, .int .i64 t.at_] 153)) := by
  have hb : Below w.heap.size w (w.alloc (.cells #[.int .i64 t.id, .int .i64 t.at_] 153)) := (Below.refl _ _).alloc (Nat.le_refl _) _
  subst h7 h10
  exact ⟨MK.mp_below h.fmp hb, obj_below h.fo hb, obj_below h.fq hb, fun _ => EK.row_below (h.fa rfl) hb, fun _ _ => ⟨_, rfl, obj_new _ _⟩, (fun e => by cases e), h.ffr.trans (Fr.of_below hb) (fun _ _ e => e), by have := h.fB; have := hb.size; omega, h.vq, h.pc⟩
theorem PuS.ap (h : PuS w0 B p c q v l t f e6 e7 e10 x6 x7 w) (hl : l.length ≤ 65536) (h6 : e6 = true) (h7 : e7 = false) (h10 : e10 = false) :
    ∃ b, x6 = .slice (some ⟨b, 0, none⟩) 1 1 ∧ ∃ v' w', (Builtin.append_ #[145, 145] 145 #[v, .slice (some ⟨b, 0, none⟩) 1 1]).run Try.prog w = .ok v' w' ∧ PuS w0 B p c q v l t f e6 true e10 (.slice (some ⟨b, 0, none⟩) 1 1) v' w' := by
  obtain ⟨b, e1, hb⟩ := h.fb h6 h7
  obtain ⟨v', w', happ, hrow, hf, hbl⟩ := EK.app (h.fa h7) (EK.rd_one (K := kT) t hb) (by simp; omega) h.fB 145
  refine ⟨b, e1, v', w', happ, ?_⟩
  subst h10
  refine ⟨MK.mp_fr h.fmp hf (fun e => (h.vq _ e).2.1 rfl), hf.obj h.fo (fun e => (h.vq _ e).1 rfl), hf.obj h.fq (fun e => (h.vq _ e).2.2 rfl), (fun e => by cases e), (fun _ e => by cases e), fun _ => ⟨hrow, ?_⟩, h.ffr.trans hf (fun _ _ e => .inl e), by have := h.fB; have := hf.size; omega, h.vq, h.pc⟩
  rcases hbl with e | e
  · exact .inl e
  · exact .inr ⟨_, e, h.ffr.size⟩
theorem PuS.sl (h : PuS w0 B p c q v l t f e6 e7 e10 x6 x7 w) (u : Value) (hu : x7 = u) (h7 : e7 = true) : ∃ A cc, u = .slice A (l.length + 1) cc := by
  obtain ⟨A, cc, e⟩ := EK.row_slice (h.fd h7).1
  rw [List.length_append, List.length_singleton] at e
  exact ⟨A, cc, hu ▸ e⟩
theorem PuS.st (h : PuS w0 B p c q v l t f e6 e7 e10 x6 x7 w) (h7 : e7 = true) (h10 : e10 = false) : PuS w0 B p c q v l t f e6 e7 true x6 x7 (w.setCell ⟨p, 0, none⟩ x7) := by
  subst h10 h7
  have hd := h.fd rfl
  have hf := (Fr.refl (fun j => j = p) w).setCell (p := ⟨p, 0, none⟩) (fun _ => rfl) x7
  have hx7 : ∀ k, x7.ownBlock = some k → k ≠ p := fun k hk e => by
    obtain ⟨-, -, cs, h7⟩ := EK.row_typed hd.1 hk
    have ho := h.fo
    rw [e, ho] at h7
    simp only [Option.some.injEq, Obj.cells.injEq] at h7
    exact absurd h7.2.1 (by decide)
  refine ⟨MK.mp_fr h.fmp hf h.pc.1.symm, ?_, hf.obj h.fq h.pc.2.symm, (fun e => by cases e), (fun _ e => by cases e), fun _ => ⟨EK.row_fr hd.1 hf hx7, hd.2⟩, h.ffr.trans hf (fun _ _ e => .inr e), by have := h.fB; have := hf.size; omega, h.vq, h.pc⟩
  have := obj_set h.fo 0 x7
  simpa using this
end
def puA (p q : Nat) (u x : Nat → Value) : Act := ⟨#[.pointer (some ⟨p, 0, none⟩), u 1, u 2, u 3, .pointer (some ⟨q, 0, none⟩), u 5, u 6, u 7, u 8, u 9, u 10, u 11, u 12, u 13, u 14, u 15, u 16, u 17, u 18, u 19, u 20, u 21, u 22, x 0, x 1, x 2, x 3, x 4, x 5, x 6, x 7, x 8, x 9], []⟩
def puV (p : Nat) (v : Value) (t : Tm) (qx : Nat) (qw : Value) : Prop :=
  match qx with
  | 0 => qw = .pointer (some ⟨p, 0, none⟩)
  | 1 => qw = .pointer (some ⟨p, 0, none⟩)
  | 2 => qw = .pointer (some ⟨p, 0, none⟩)
  | 3 => qw = .pointer (some ⟨p, 0, none⟩)
  | 4 => qw = v
  | 5 => qw = .agg #[.int .i64 t.id, .int .i64 t.at_]
  | 8 => qw = .pointer (some ⟨p, 0, none⟩)
  | 9 => qw = .pointer (some ⟨p, 0, none⟩)
  | _ => True
theorem AtOk.push {l : List Tm} {f : Int → Option Int} (h : AtOk l f) {t : Tm} (hn : ∀ x ∈ l, x.id ≠ t.id) : AtOk (l ++ [t]) (upm f t.id (some (l.length : Int))) := fun id v => by
  have e1 : ∀ k, k < l.length → tat (l ++ [t]) k = tat l k := fun k hk => by
    unfold tat
    rw [List.getD_eq_getElem?_getD, List.getElem?_append_left hk, List.getD_eq_getElem?_getD]
  have e2 : tat (l ++ [t]) l.length = t := by simp [tat]
  rw [List.length_append, List.length_singleton]
  by_cases hid : id = t.id
  · subst hid
    rw [upm_same]
    constructor
    · intro e
      cases e
      exact ⟨l.length, by omega, by rw [e2], rfl⟩
    · rintro ⟨k, hk, e, rfl⟩
      rcases (by omega : k < l.length ∨ k = l.length) with h1 | h1
      · rw [e1 k h1] at e
        exact absurd e (hn _ (tat_mem h1))
      · rw [h1]
  · rw [upm_other _ _ hid, h id v]
    constructor
    · rintro ⟨k, hk, e, rfl⟩
      exact ⟨k, by omega, by rw [e1 k hk]; exact e, rfl⟩
    · rintro ⟨k, hk, e, rfl⟩
      rcases (by omega : k < l.length ∨ k = l.length) with h1 | h1
      · rw [e1 k h1] at e
        exact ⟨k, h1, e, rfl⟩
      · rw [h1, e2] at e
        exact absurd e.symm hid
set_option maxHeartbeats 8000000 in
set_option maxRecDepth 100000 in
theorem ppush_any {w : World} {B p c : Nat} {v : Value} {l : List Tm} {f : Int → Option Int} (h : PV w B p c v l f) (hf : AtOk l f) (t : Tm) (hn : ∀ x ∈ l, x.id ≠ t.id) (hlen : l.length ≤ 65536) (hB : B ≤ w.heap.size) :
    Calls Try.prog 144 #[.pointer (some ⟨p, 0, none⟩), .iface 153 (.agg #[.int .i64 t.id, .int .i64 t.at_])] w fun e w' => e = .returned (.tuple #[]) ∧ (∃ v' f', PV w' B p c v' (l ++ [t]) f' ∧ AtOk (l ++ [t]) f' ∧ (v'.ownBlock = v.ownBlock ∨ ∃ k, v'.ownBlock = some k ∧ w.heap.size ≤ k)) ∧ Fr (fun k => v.ownBlock = some k ∨ k = p ∨ k = c) w w' := by
  obtain ⟨A, cc, rfl⟩ := EK.row_slice h.2.1
  obtain ⟨n, hnn⟩ : ∃ n, n = l.length := ⟨_, rfl⟩
  rw [← hnn] at h ⊢
  obtain ⟨q, hq⟩ : ∃ q, q = w.heap.size := ⟨_, rfl⟩
  obtain ⟨W1, hW1⟩ : ∃ W, W = w.alloc (.cells #[.int .i64 t.id, .int .i64 t.at_] 153) := ⟨_, rfl⟩
  have hb1 : Below w.heap.size w W1 := by rw [hW1]; exact (Below.refl _ _).alloc (Nat.le_refl _) _
  have oq : W1.heap[q]? = some (.cells #[.int .i64 t.id, .int .i64 t.at_] 153 (0, 0)) := by rw [hW1, hq]; exact obj_new _ _
  have hv1 : PV W1.drew B p c (.slice A n cc) l f := h.below hb1.drew
  obtain ⟨w2, hup, hm2, hf2, hs2⟩ := MK.run_put (K := kA) hv1.2.2 t.id (l.length : Int)
  rw [← hnn] at hup
  have hltp := h.lt
  have hne : ∀ k, (Value.slice A n cc).ownBlock = some k → k ≠ p ∧ k ≠ c ∧ k ≠ q := fun k hk => by
    have h1 := h.vne hk
    have h2 := (EK.row_typed h.2.1 hk).2.1
    exact ⟨h1.1, h1.2, by omega⟩
  have oq2 := hf2.obj (show W1.drew.heap[q]? = some (.cells #[.int .i64 t.id, .int .i64 t.at_] 153 (0, 0)) from oq) (by omega)
  have HST := hide (show PuS w2 B p c q (.slice A n cc) l t (upm f t.id (some (l.length : Int))) false false false undef undef w2.drew from
    ⟨hm2, hf2.obj hv1.1 h.pc, oq2, fun _ => EK.row_fr hv1.2.1 hf2.drew (fun k hk e => (hne k hk).2.1 e), (fun e => by cases e), (fun e => by cases e), (Fr.refl _ _).drew, by have := hb1.size; have : w2.heap.size = W1.heap.size := hs2; show B ≤ w2.heap.size; omega, hne, h.pc, by omega⟩)
  have HB2 := hide (show Fr (fun k => k = c) w w2 from ((Fr.of_below hb1).drew).trans hf2 (fun _ _ e => e))
  have HUP : Hid ((Instr.mapUpdate 142 (.map (some c)) (.int .i64 t.id) (.int .i64 (n : Int))).run Try.prog W1.drew = .ok () w2) := hide hup
  have HN := hide hlen
  have HAT := hide (hf.push hn)
  have HQ := hide hq
  have z0 := obj_cell hv1.1 0
  have z1 := obj_cell hv1.1 1
  have q0 := obj_cell oq 0
  simp only [List.getElem?_toArray, List.getElem?_cons_zero, List.getElem?_cons_succ, World.cell?_drew] at z0 z1 q0
  clear h hf hn hv1 hup hm2 hf2 hs2 hne oq oq2 hb1 hltp hnn
  have hta : ∀ W : World, (Instr.typeAssert (.iface 153 (.agg #[.int .i64 t.id, .int .i64 t.at_])) 20 153 true).run Try.prog W = .ok (.tuple #[.agg #[.int .i64 t.id, .int .i64 t.at_], .bool true]) W := fun _ => by kernel_rfl
  go_enter Try.func144, Try.ntmps144
  go_wp2_with fail
  rw [← hW1, ← hq]
  clear hW1 hq
  refine wp_stl 11 (by kernel_rfl) (by kernel_rfl) ?_
  simp only [List.take_succ_cons, List.take_zero, List.drop_succ_cons, List.drop_zero]
  repeat still_step
  refine wpStill_nil ?_
  refine wpList_mapup rfl 142 (.tmp 15) (.tmp 17) (.tmp 22) rfl rfl rfl rfl HUP.out ?_
  clear z0 z1 q0
  go_wp2_with fail
  refine wp_region_c (puA p q) (fun j => #[23, 24, 25, 26, 27, 28, 29, 30, 31, 32, 0].getD j 0) (fun d x w' => PuS w2 B p c q (.slice A n cc) l t (upm f t.id (some (l.length : Int))) (d 6) (d 7) (d 10) (x 6) (x 7) w') (fun qi qv => puV p (.slice A n cc) t qi qv) (by kernel_rfl) (by kernel_rfl) rfl ⟨HST.out.fmp, HST.out.fo, HST.out.fq, HST.out.fa, (fun e => by cases e), (fun e => by cases e), HST.out.ffr, HST.out.fB, HST.out.vq, HST.out.pc⟩ ?_ ?_ ?_
  · exact fun u => ⟨fun x v => rfl, fun x v => rfl, fun x v => rfl, fun x v => rfl, fun x v => rfl, fun x v => rfl, fun x v => rfl, fun x v => rfl, fun x v => rfl, fun x v => rfl, fun x v => rfl, trivial⟩
  · refine fun u => ⟨?_, ?_, ?_, ?_, ?_, ?_, ?_, ?_, ?_, ?_, ?_, trivial⟩
    · intro d x w' hS hdi hv hp hcl K hK
      have hS1 : PuS w2 B p c q (.slice A n cc) l t (upm f t.id (some (l.length : Int))) (d 6) (d 7) (d 10) (x 6) (x 7) w' := hS
      refine ⟨rfl, ?_⟩
      unfold puA at hK ⊢
      go_wp2
      exact hK (.pointer (some ⟨p, 0, none⟩)) w' (show PuS w2 B p c q (.slice A n cc) l t (upm f t.id (some (l.length : Int))) (d 6) (d 7) (d 10) (x 6) (x 7) w' from hS1) rfl
    · intro d x w' hS hdi hv hp hcl K hK
      have hS1 : PuS w2 B p c q (.slice A n cc) l t (upm f t.id (some (l.length : Int))) (d 6) (d 7) (d 10) (x 6) (x 7) w' := hS
      refine ⟨rfl, ?_⟩
      unfold puA at hK ⊢
      go_wp2
      exact hK (.pointer (some ⟨p, 0, none⟩)) w' (show PuS w2 B p c q (.slice A n cc) l t (upm f t.id (some (l.length : Int))) (d 6) (d 7) (d 10) (x 6) (x 7) w' from hS1) rfl
    · intro d x w' hS hdi hv hp hcl K hK
      have d0 : x 1 = .pointer (some ⟨p, 0, none⟩) := hv 1 (hp 1 (by kernel_rfl))
      have hS1 : PuS w2 B p c q (.slice A n cc) l t (upm f t.id (some (l.length : Int))) (d 6) (d 7) (d 10) (x 6) (x 7) w' := hS
      refine ⟨rfl, ?_⟩
      unfold puA at hK ⊢
      simp only [d0] at hK ⊢
      go_wp2
      exact hK (.pointer (some ⟨p, 0, none⟩)) w' (show PuS w2 B p c q (.slice A n cc) l t (upm f t.id (some (l.length : Int))) (d 6) (d 7) (d 10) (x 6) (x 7) w' from hS1) rfl
    · intro d x w' hS hdi hv hp hcl K hK
      have d0 : x 2 = .pointer (some ⟨p, 0, none⟩) := hv 2 (hp 2 (by kernel_rfl))
      have hS1 : PuS w2 B p c q (.slice A n cc) l t (upm f t.id (some (l.length : Int))) (d 6) (d 7) (d 10) (x 6) (x 7) w' := hS
      refine ⟨rfl, ?_⟩
      unfold puA at hK ⊢
      simp only [d0] at hK ⊢
      go_wp2
      exact hK (.pointer (some ⟨p, 0, none⟩)) w' (show PuS w2 B p c q (.slice A n cc) l t (upm f t.id (some (l.length : Int))) (d 6) (d 7) (d 10) (x 6) (x 7) w' from hS1) rfl
    · intro d x w' hS hdi hv hp hcl K hK
      have d0 : x 3 = .pointer (some ⟨p, 0, none⟩) := hv 3 (hp 3 (by kernel_rfl))
      have hS1 : PuS w2 B p c q (.slice A n cc) l t (upm f t.id (some (l.length : Int))) (d 6) (d 7) (d 10) (x 6) (x 7) w' := hS
      have n10 : ¬ d 10 = true := fun e => by have := hcl 10 4 e (by kernel_rfl); rw [hdi] at this; cases this
      have ho := hS1.fo
      rw [if_neg n10] at ho
      have z0 := obj_cell ho 0
      simp only [List.getElem?_toArray, List.getElem?_cons_zero] at z0
      clear ho
      refine ⟨rfl, ?_⟩
      unfold puA at hK ⊢
      simp only [d0] at hK ⊢
      go_wp2
      exact hK (.slice A n cc) w' (show PuS w2 B p c q (.slice A n cc) l t (upm f t.id (some (l.length : Int))) (d 6) (d 7) (d 10) (x 6) (x 7) w' from hS1) rfl
    · intro d x w' hS hdi hv hp hcl K hK
      have hS1 : PuS w2 B p c q (.slice A n cc) l t (upm f t.id (some (l.length : Int))) (d 6) (d 7) (d 10) (x 6) (x 7) w' := hS
      have q0 := obj_cell hS1.fq 0
      have q1 := obj_cell hS1.fq 1
      simp only [List.getElem?_toArray, List.getElem?_cons_zero, List.getElem?_cons_succ] at q0 q1
      refine ⟨rfl, ?_⟩
      unfold puA at hK ⊢
      go_wp2
      exact hK (.agg #[.int .i64 t.id, .int .i64 t.at_]) w' (show PuS w2 B p c q (.slice A n cc) l t (upm f t.id (some (l.length : Int))) (d 6) (d 7) (d 10) (x 6) (x 7) w' from hS1) rfl
    · intro d x w' hS hdi hv hp hcl K hK
      have d0 : x 5 = .agg #[.int .i64 t.id, .int .i64 t.at_] := hv 5 (hp 5 (by kernel_rfl))
      have hS1 : PuS w2 B p c q (.slice A n cc) l t (upm f t.id (some (l.length : Int))) (d 6) (d 7) (d 10) (x 6) (x 7) w' := hS
      have n7 : ¬ d 7 = true := fun e => by have := hcl 7 6 e (by kernel_rfl); rw [hdi] at this; cases this
      have n10 : ¬ d 10 = true := fun e => by have := hcl 10 6 e (by kernel_rfl); rw [hdi] at this; cases this
      refine ⟨rfl, ?_⟩
      unfold puA at hK ⊢
      simp only [d0] at hK ⊢
      go_wp2
      exact hK _ _ (show PuS w2 B p c q (.slice A n cc) l t (upm f t.id (some (l.length : Int))) true (d 7) (d 10) _ (x 7) _ from hS1.bs (by simpa using n7) (by simpa using n10)) trivial
    · intro d x w' hS hdi hv hp hcl K hK
      have d0 : x 4 = .slice A n cc := hv 4 (hp 4 (by kernel_rfl))
      have hS1 : PuS w2 B p c q (.slice A n cc) l t (upm f t.id (some (l.length : Int))) (d 6) (d 7) (d 10) (x 6) (x 7) w' := hS
      have n10 : ¬ d 10 = true := fun e => by have := hcl 10 7 e (by kernel_rfl); rw [hdi] at this; cases this
      have y6 : d 6 = true := hp 6 (by kernel_rfl)
      obtain ⟨bx, e6, v', w4, hrun, hS2⟩ := hS1.ap HN.out y6 hdi (by simpa using n10)
      refine ⟨rfl, ?_⟩
      unfold puA at hK ⊢
      simp only [d0] at hK ⊢
      exact wp_append_n (.tmp 27) (.tmp 29) 145 145 rfl rfl e6 hrun (hK _ _ (show PuS w2 B p c q (.slice A n cc) l t (upm f t.id (some (l.length : Int))) (d 6) true (d 10) (x 6) v' w4 from by rw [e6]; exact hS2) trivial)
    · intro d x w' hS hdi hv hp hcl K hK
      have d0 : x 0 = .pointer (some ⟨p, 0, none⟩) := hv 0 (hp 0 (by kernel_rfl))
      have hS1 : PuS w2 B p c q (.slice A n cc) l t (upm f t.id (some (l.length : Int))) (d 6) (d 7) (d 10) (x 6) (x 7) w' := hS
      refine ⟨rfl, ?_⟩
      unfold puA at hK ⊢
      simp only [d0] at hK ⊢
      go_wp2
      exact hK (.pointer (some ⟨p, 0, none⟩)) w' (show PuS w2 B p c q (.slice A n cc) l t (upm f t.id (some (l.length : Int))) (d 6) (d 7) (d 10) (x 6) (x 7) w' from hS1) rfl
    · intro d x w' hS hdi hv hp hcl K hK
      have d0 : x 8 = .pointer (some ⟨p, 0, none⟩) := hv 8 (hp 8 (by kernel_rfl))
      have hS1 : PuS w2 B p c q (.slice A n cc) l t (upm f t.id (some (l.length : Int))) (d 6) (d 7) (d 10) (x 6) (x 7) w' := hS
      refine ⟨rfl, ?_⟩
      unfold puA at hK ⊢
      simp only [d0] at hK ⊢
      go_wp2
      exact hK (.pointer (some ⟨p, 0, none⟩)) w' (show PuS w2 B p c q (.slice A n cc) l t (upm f t.id (some (l.length : Int))) (d 6) (d 7) (d 10) (x 6) (x 7) w' from hS1) rfl
    · intro d x w' hS hdi hv hp hcl K hK
      have d0 : x 9 = .pointer (some ⟨p, 0, none⟩) := hv 9 (hp 9 (by kernel_rfl))
      have hS1 : PuS w2 B p c q (.slice A n cc) l t (upm f t.id (some (l.length : Int))) (d 6) (d 7) (d 10) (x 6) (x 7) w' := hS
      have y7 : d 7 = true := hp 7 (by kernel_rfl)
      refine ⟨rfl, ?_⟩
      unfold puA at hK ⊢
      simp only [d0] at hK ⊢
      have ho := hS1.fo
      rw [if_neg (by rw [hdi]; decide)] at ho
      have z0 := obj_cell ho 0
      have t0 := obj_frozen ho 0
      obtain ⟨A', cc', e7⟩ := hS1.sl (x 7) rfl y7
      simp only [List.getElem?_toArray, List.getElem?_cons_zero] at z0
      have hS2 := hS1.st y7 hdi
      rw [e7] at hK ⊢ hS2
      clear ho
      go_wp2
      exact hK undef _ (show PuS w2 B p c q (.slice A n cc) l t (upm f t.id (some (l.length : Int))) (d 6) (d 7) true (x 6) (.slice A' (l.length + 1) cc') _ from hS2) trivial
  · intro u hu d x w4 hS hd hv
    have hS1 : PuS w2 B p c q (.slice A n cc) l t (upm f t.id (some (l.length : Int))) (d 6) (d 7) (d 10) (x 6) (x 7) w4 := hS
    rw [hd 6 (by decide), hd 7 (by decide), hd 10 (by decide)] at hS1
    have hdd := hS1.fd rfl
    have ho := hS1.fo
    rw [if_pos rfl] at ho
    have HFIN := hide (show (∃ v' f', PV w4 B p c v' (l ++ [t]) f' ∧ AtOk (l ++ [t]) f' ∧ (v'.ownBlock = (Value.slice A n cc).ownBlock ∨ ∃ k, v'.ownBlock = some k ∧ w.heap.size ≤ k)) ∧ Fr (fun k => (Value.slice A n cc).ownBlock = some k ∨ k = p ∨ k = c) w w4 from
      ⟨⟨x 7, _, ⟨ho, hdd.1, hS1.fmp⟩, HAT.out, hdd.2.imp id (fun ⟨k, e, h2⟩ => ⟨k, e, by have := HB2.out.size; omega⟩)⟩, (HB2.out.mono (fun k _ e => .inr (.inr e))).trans hS1.ffr (fun k _ e => e.elim .inl (fun e => .inr (.inl e)))⟩)
    clear hS hS1 hd hv hu hdd ho
    unfold puA
    go_wp2
    go_end0
    exact ⟨rfl, HFIN.out⟩
def poA (p : Nat) (u x : Nat → Value) : Act := ⟨#[.pointer (some ⟨p, 0, none⟩), u 1, u 2, x 12, x 0, x 1, x 2, x 3, x 4, x 5, x 6, x 7, x 8, x 9, x 10, x 11, u 16, u 17, u 18, u 19, u 20, u 21, u 22, u 23, u 24, u 25, u 26, u 27, u 28, u 29, u 30, u 31, u 32, u 33, u 34, u 35, u 36, u 37], []⟩
def poV (p r n cap m : Nat) (t : Tm) (qx : Nat) (qw : Value) : Prop :=
  match qx with
  | 0 => qw = .pointer (some ⟨p, 0, none⟩)
  | 1 => qw = .pointer (some ⟨p, 0, none⟩)
  | 2 => qw = .pointer (some ⟨p, 0, none⟩)
  | 3 => qw = .slice (some ⟨r, 0, none⟩) n cap
  | 4 => qw = .pointer (some ⟨p, 0, none⟩)
  | 5 => qw = .pointer (some ⟨p, 0, none⟩)
  | 6 => qw = .pointer (some ⟨p, 0, none⟩)
  | 7 => qw = .slice (some ⟨r, 0, none⟩) n cap
  | 8 => qw = .int .i64 (n : Int)
  | 9 => qw = .int .i64 (m : Int)
  | 10 => qw = .pointer (some ⟨r, m * 2, none⟩)
  | 11 => qw = .agg #[.int .i64 t.id, .int .i64 t.at_]
  | _ => True
structure PoS (w0 : World) (t : Tm) (e12 e13 : Bool) (x12 : Value) (w : World) : Prop where
  b : Below w0.heap.size w0 w
  o : e12 = true → ∃ q, x12 = .pointer (some ⟨q, 0, none⟩) ∧ w0.heap.size ≤ q ∧ w.heap[q]? = some (.cells (if e13 = true then #[.int .i64 t.id, .int .i64 t.at_] else #[.int .i64 0, .int .i64 0]) 153 (0, 0))
theorem PoS.al {w0 w : World} {t : Tm} {e12 e13 : Bool} {x12 : Value} (h : PoS w0 t e12 e13 x12 w) (h13 : e13 = false) : PoS w0 t true e13 (.pointer (some ⟨w.heap.size, 0, none⟩)) (w.alloc (.cells #[.int .i64 0, .int .i64 0] 153)) := by
  subst h13
  exact ⟨h.b.alloc h.b.size _, fun _ => ⟨_, rfl, h.b.size, by rw [if_neg (by decide)]; exact obj_new _ _⟩⟩
theorem PoS.st {w0 w : World} {t : Tm} {e12 e13 : Bool} {x12 : Value} (h : PoS w0 t e12 e13 x12 w) (h12 : e12 = true) (h13 : e13 = false) :
    ∃ q, x12 = .pointer (some ⟨q, 0, none⟩) ∧ (Instr.storeAt 153 (.pointer (some ⟨q, 0, none⟩)) (.agg #[.int .i64 t.id, .int .i64 t.at_])).run Try.prog w = .ok () (w.setRow q #[.int .i64 t.id, .int .i64 t.at_]) ∧ PoS w0 t e12 true x12 (w.setRow q #[.int .i64 t.id, .int .i64 t.at_]) := by
  obtain ⟨q, e1, h1, h2⟩ := h.o h12
  rw [h13, if_neg (by decide)] at h2
  refine ⟨q, e1, store_whole (P := Try.prog) (ty := 153) h2 (cells := #[.int .i64 t.id, .int .i64 t.at_]) info44 rfl (by simp [Value.oneCell']), ⟨h.b.trans ((setRow_fr' w q #[.int .i64 t.id, .int .i64 t.at_]).below _ h.b.size (fun j hj e => by omega)), fun _ => ⟨q, e1, h1, ?_⟩⟩⟩
  rw [if_pos rfl]
  exact setRow_at' h2
theorem AtOk.pop {l : List Tm} {f : Int → Option Int} (h : AtOk l f) (h0 : 0 < l.length) : AtOk (l.take (l.length - 1)) (upm f (tat l (l.length - 1)).id none) := fun id v => by
  have e1 : ∀ k, k < l.length - 1 → tat (l.take (l.length - 1)) k = tat l k := fun k hk => by
    unfold tat
    rw [List.getD_eq_getElem?_getD, List.getElem?_take, if_pos hk, List.getD_eq_getElem?_getD]
  rw [List.length_take, Nat.min_eq_left (by omega)]
  by_cases hid : id = (tat l (l.length - 1)).id
  · subst hid
    rw [upm_same]
    constructor
    · intro e
      cases e
    · rintro ⟨k, hk, e, rfl⟩
      rw [e1 k hk] at e
      have := h.one (by omega) (by omega) e
      omega
  · rw [upm_other _ _ hid, h id v]
    constructor
    · rintro ⟨k, hk, e, rfl⟩
      have hk2 : k ≠ l.length - 1 := fun e2 => hid (by rw [← e, e2])
      exact ⟨k, by omega, by rw [e1 k (by omega)]; exact e, rfl⟩
    · rintro ⟨k, hk, e, rfl⟩
      rw [e1 k hk] at e
      exact ⟨k, by omega, e, rfl⟩
set_option maxHeartbeats 8000000 in
set_option maxRecDepth 100000 in
theorem ppop_any {w : World} {B p c : Nat} {v : Value} {l : List Tm} {f : Int → Option Int} (h : PV w B p c v l f) (hf : AtOk l f) (h0 : 0 < l.length) :
    Calls Try.prog 143 #[.pointer (some ⟨p, 0, none⟩)] w fun e w' => e = .returned (.iface 153 (.agg #[.int .i64 (tat l (l.length - 1)).id, .int .i64 (tat l (l.length - 1)).at_])) ∧ (∃ v' f', PV w' B p c v' (l.take (l.length - 1)) f' ∧ AtOk (l.take (l.length - 1)) f' ∧ v'.ownBlock = v.ownBlock) ∧ Fr (fun k => k = p ∨ k = c) w w' := by
  obtain ⟨m, hm⟩ : ∃ m, m = l.length - 1 := ⟨_, rfl⟩
  have hml : m < l.length := by omega
  obtain ⟨r, cap, rfl, hn, hc, -, hrl, hcell⟩ := EK.row_cells h.2.1 hml
  obtain ⟨n, hnn⟩ : ∃ n, n = l.length := ⟨_, rfl⟩
  obtain ⟨t, ht⟩ : ∃ t, t = tat l m := ⟨_, rfl⟩
  rw [← hnn] at h hn ⊢
  rw [show n - 1 = m by omega, ← ht]
  simp only [maxLen] at hc
  have HC := hide (show p < w.heap.size ∧ w.cell? ⟨p, 0, none⟩ = some (.slice (some ⟨r, 0, none⟩) n cap) ∧ r < w.heap.size ∧ w.cell? ⟨r, m * 2, none⟩ = some (.int .i64 t.id) ∧ w.cell? ⟨r, m * 2 + 1, none⟩ = some (.int .i64 t.at_) from
    ⟨h.lt.1, obj_cell h.1 0, hrl, by rw [ht, tat_eq hml]; exact hcell 0 (by decide), by rw [ht, tat_eq hml]; exact hcell 1 (by decide)⟩)
  have HPV := hide h
  have HRW := hide (EK.row_cut h.2.1 (m := m) (by omega))
  have HAT := hide (show AtOk (l.take m) (upm f t.id none) from by
    have := hf.pop h0
    rw [← hm, ← ht] at this
    exact this)
  have hmn : (n : Int) - 1 = (m : Int) := by omega
  have hmcap : m ≤ cap := by omega
  have hmi : (m : Int) < (n : Int) := by omega
  clear h hf h0 hcell ht hm hnn hml hrl
  have hwm : IntKind.i64.wrap (m : Int) = (m : Int) := by rw [IntKind.wrap_i64]; omega
  go_enter Try.func143, Try.ntmps143
  go_wp2_with fail
  refine wp_region_c (poA p) (fun j => #[4, 5, 6, 7, 8, 9, 10, 11, 12, 13, 14, 15, 3, 0].getD j 0) (fun d x w' => PoS w t (d 12) (d 13) (x 12) w') (fun qi qv => poV p r n cap m t qi qv) (by kernel_rfl) (by kernel_rfl) rfl ⟨(Below.refl _ _).drew, (fun e => by cases e)⟩ ?_ ?_ ?_
  · exact fun u => ⟨fun x v => rfl, fun x v => rfl, fun x v => rfl, fun x v => rfl, fun x v => rfl, fun x v => rfl, fun x v => rfl, fun x v => rfl, fun x v => rfl, fun x v => rfl, fun x v => rfl, fun x v => rfl, fun x v => rfl, fun x v => rfl, trivial⟩
  · refine fun u => ⟨?_, ?_, ?_, ?_, ?_, ?_, ?_, ?_, ?_, ?_, ?_, ?_, ?_, ?_, trivial⟩
    · intro d x w' hS hdi hv hp hcl K hK
      have hS1 : PoS w t (d 12) (d 13) (x 12) w' := hS
      refine ⟨rfl, ?_⟩
      unfold poA at hK ⊢
      go_wp2
      exact hK (.pointer (some ⟨p, 0, none⟩)) w' hS rfl
    · intro d x w' hS hdi hv hp hcl K hK
      have d0 : x 0 = .pointer (some ⟨p, 0, none⟩) := hv 0 (hp 0 (by kernel_rfl))
      have hS1 : PoS w t (d 12) (d 13) (x 12) w' := hS
      refine ⟨rfl, ?_⟩
      unfold poA at hK ⊢
      simp only [d0] at hK ⊢
      go_wp2
      exact hK (.pointer (some ⟨p, 0, none⟩)) w' hS rfl
    · intro d x w' hS hdi hv hp hcl K hK
      have d0 : x 1 = .pointer (some ⟨p, 0, none⟩) := hv 1 (hp 1 (by kernel_rfl))
      have hS1 : PoS w t (d 12) (d 13) (x 12) w' := hS
      refine ⟨rfl, ?_⟩
      unfold poA at hK ⊢
      simp only [d0] at hK ⊢
      go_wp2
      exact hK (.pointer (some ⟨p, 0, none⟩)) w' hS rfl
    · intro d x w' hS hdi hv hp hcl K hK
      have d0 : x 2 = .pointer (some ⟨p, 0, none⟩) := hv 2 (hp 2 (by kernel_rfl))
      have hS1 : PoS w t (d 12) (d 13) (x 12) w' := hS
      have z0 := (hS1.b.cell (p := ⟨p, 0, none⟩) HC.out.1).trans HC.out.2.1
      refine ⟨rfl, ?_⟩
      unfold poA at hK ⊢
      simp only [d0] at hK ⊢
      go_wp2
      exact hK (.slice (some ⟨r, 0, none⟩) n cap) w' hS rfl
    · intro d x w' hS hdi hv hp hcl K hK
      have hS1 : PoS w t (d 12) (d 13) (x 12) w' := hS
      refine ⟨rfl, ?_⟩
      unfold poA at hK ⊢
      go_wp2
      exact hK (.pointer (some ⟨p, 0, none⟩)) w' hS rfl
    · intro d x w' hS hdi hv hp hcl K hK
      have d0 : x 4 = .pointer (some ⟨p, 0, none⟩) := hv 4 (hp 4 (by kernel_rfl))
      have hS1 : PoS w t (d 12) (d 13) (x 12) w' := hS
      refine ⟨rfl, ?_⟩
      unfold poA at hK ⊢
      simp only [d0] at hK ⊢
      go_wp2
      exact hK (.pointer (some ⟨p, 0, none⟩)) w' hS rfl
    · intro d x w' hS hdi hv hp hcl K hK
      have d0 : x 5 = .pointer (some ⟨p, 0, none⟩) := hv 5 (hp 5 (by kernel_rfl))
      have hS1 : PoS w t (d 12) (d 13) (x 12) w' := hS
      refine ⟨rfl, ?_⟩
      unfold poA at hK ⊢
      simp only [d0] at hK ⊢
      go_wp2
      exact hK (.pointer (some ⟨p, 0, none⟩)) w' hS rfl
    · intro d x w' hS hdi hv hp hcl K hK
      have d0 : x 6 = .pointer (some ⟨p, 0, none⟩) := hv 6 (hp 6 (by kernel_rfl))
      have hS1 : PoS w t (d 12) (d 13) (x 12) w' := hS
      have z0 := (hS1.b.cell (p := ⟨p, 0, none⟩) HC.out.1).trans HC.out.2.1
      refine ⟨rfl, ?_⟩
      unfold poA at hK ⊢
      simp only [d0] at hK ⊢
      go_wp2
      exact hK (.slice (some ⟨r, 0, none⟩) n cap) w' hS rfl
    · intro d x w' hS hdi hv hp hcl K hK
      have d0 : x 7 = .slice (some ⟨r, 0, none⟩) n cap := hv 7 (hp 7 (by kernel_rfl))
      have hS1 : PoS w t (d 12) (d 13) (x 12) w' := hS
      refine ⟨rfl, ?_⟩
      unfold poA at hK ⊢
      simp only [d0] at hK ⊢
      go_wp2
      exact hK (.int .i64 (n : Int)) w' hS rfl
    · intro d x w' hS hdi hv hp hcl K hK
      have d0 : x 8 = .int .i64 (n : Int) := hv 8 (hp 8 (by kernel_rfl))
      have hS1 : PoS w t (d 12) (d 13) (x 12) w' := hS
      refine ⟨rfl, ?_⟩
      unfold poA at hK ⊢
      simp only [d0] at hK ⊢
      go_wp2
      exact hK (.int .i64 (m : Int)) w' hS rfl
    · intro d x w' hS hdi hv hp hcl K hK
      have d0 : x 3 = .slice (some ⟨r, 0, none⟩) n cap := hv 3 (hp 3 (by kernel_rfl))
      have d1 : x 9 = .int .i64 (m : Int) := hv 9 (hp 9 (by kernel_rfl))
      have hS1 : PoS w t (d 12) (d 13) (x 12) w' := hS
      refine ⟨rfl, ?_⟩
      unfold poA at hK ⊢
      simp only [d0, d1] at hK ⊢
      go_wp2
      exact hK (.pointer (some ⟨r, m * 2, none⟩)) w' hS rfl
    · intro d x w' hS hdi hv hp hcl K hK
      have d0 : x 10 = .pointer (some ⟨r, m * 2, none⟩) := hv 10 (hp 10 (by kernel_rfl))
      have hS1 : PoS w t (d 12) (d 13) (x 12) w' := hS
      have q0 := (hS1.b.cell (p := ⟨r, m * 2, none⟩) HC.out.2.2.1).trans HC.out.2.2.2.1
      have q1 := (hS1.b.cell (p := ⟨r, m * 2 + 1, none⟩) HC.out.2.2.1).trans HC.out.2.2.2.2
      refine ⟨rfl, ?_⟩
      unfold poA at hK ⊢
      simp only [d0] at hK ⊢
      go_wp2
      exact hK (.agg #[.int .i64 t.id, .int .i64 t.at_]) w' hS rfl
    · intro d x w' hS hdi hv hp hcl K hK
      have hS1 : PoS w t (d 12) (d 13) (x 12) w' := hS
      have n13 : ¬ d 13 = true := fun e => by have := hcl 13 12 e (by kernel_rfl); rw [hdi] at this; cases this
      refine ⟨rfl, ?_⟩
      unfold poA at hK ⊢
      go_wp2
      exact hK _ _ (show PoS w t true (d 13) _ _ from hS1.al (by simpa using n13)) trivial
    · intro d x w' hS hdi hv hp hcl K hK
      have d1 : x 11 = .agg #[.int .i64 t.id, .int .i64 t.at_] := hv 11 (hp 11 (by kernel_rfl))
      have hS1 : PoS w t (d 12) (d 13) (x 12) w' := hS
      have y12 : d 12 = true := hp 12 (by kernel_rfl)
      obtain ⟨q, e12, hst, hS2⟩ := hS1.st y12 hdi
      refine ⟨rfl, ?_⟩
      unfold poA at hK ⊢
      simp only [d1] at hK ⊢
      exact wp_storev' 153 (.tmp 3) (.tmp 15) rfl e12 rfl hst (hK undef _ (show PoS w t (d 12) true (x 12) _ from hS2) trivial)
  · intro u hu d x w1 hS hd hv
    have hS1 : PoS w t (d 12) (d 13) (x 12) w1 := hS
    rw [hd 12 (by decide), hd 13 (by decide)] at hS1
    obtain ⟨q, eq_, hq, hoq⟩ := hS1.o rfl
    rw [if_pos rfl] at hoq
    have hv1 := HPV.out.below hS1.b
    have hne := HPV.out.vne (q := r) rfl
    have hlt := HPV.out.lt
    have hpc := HPV.out.pc
    obtain ⟨w2, hw2⟩ : ∃ w2, w2 = (w1.setCell ⟨p, 0, none⟩ (.slice (some ⟨r, 0, none⟩) m cap)).drew := ⟨_, rfl⟩
    have hf2 : Fr (fun k => k = p) w1 w2 := by rw [hw2]; exact ((Fr.refl (fun k => k = p) w1).setCell (p := ⟨p, 0, none⟩) (fun _ => rfl) _).drew
    have ho2 : w2.heap[p]? = some (.cells #[.slice (some ⟨r, 0, none⟩) m cap, .map (some c), byT] 149 (0, 0)) := by
      rw [hw2]
      show (w1.setCell ⟨p, 0, none⟩ (.slice (some ⟨r, 0, none⟩) m cap)).heap[p]? = _
      have := obj_set hv1.1 0 (.slice (some ⟨r, 0, none⟩) m cap)
      simpa using this
    have hoq2 := hf2.obj hoq (by omega)
    have hmp2 := MK.mp_fr hv1.2.2 hf2 hpc.symm
    have hrw2 := EK.row_fr (EK.row_below HRW.out hS1.b) hf2 (fun k hk e => by cases hk; exact hne.1 e)
    obtain ⟨w3, hdel, hm3, hf3, -⟩ := MK.run_del (K := kA) (show kA.mp w2.drew c f from hmp2) t.id 0
    have hoq3 := hf3.obj (show w2.drew.heap[q]? = _ from hoq2) (by omega)
    have HFIN := hide (show (∃ v' f', PV w3 B p c v' (l.take m) f' ∧ AtOk (l.take m) f' ∧ v'.ownBlock = (Value.slice (some ⟨r, 0, none⟩) n cap).ownBlock) ∧ Fr (fun k => k = p ∨ k = c) w w3 from
      ⟨⟨_, _, ⟨hf3.obj ho2 hpc, EK.row_fr (show kT.row w2.drew B _ _ from hrw2) hf3 (fun k hk e => by cases hk; exact hne.2 e), hm3⟩, HAT.out, rfl⟩, ((Fr.of_below (F := fun k => k = p ∨ k = c) hS1.b).trans hf2 (fun k _ e => .inl e)).trans (⟨hf3.os, hf3.tape, hf3.output, hf3.size, hf3.block⟩ : Fr (fun k => k = c) w2 w3) (fun k _ e => .inr e)⟩)
    have HDEL : Hid ((Builtin.delete_ #[142, 3] 0 #[.map (some c), .int .i64 t.id]).run Try.prog w2.drew = .ok (.tuple #[]) w3) := hide hdel
    have z0 := obj_cell hv1.1 0
    have t0 := obj_frozen hv1.1 0
    have z1 := obj_cell ho2 1
    have q0 := obj_cell hoq2 0
    have r0 := obj_cell hoq3 0
    have r1 := obj_cell hoq3 1
    simp only [List.getElem?_toArray, List.getElem?_cons_zero, List.getElem?_cons_succ] at z0 z1 q0 r0 r1
    clear hS hS1 hd hv hu hoq hv1 hf2 ho2 hoq2 hmp2 hrw2 hm3 hf3 hoq3 hdel hne hlt hpc hq
    unfold poA
    rw [eq_]
    clear eq_
    go_wp2_with fail
    refine wp_stl 14 (by kernel_rfl) (by kernel_rfl) ?_
    simp only [List.take_succ_cons, List.take_zero, List.drop_succ_cons, List.drop_zero]
    repeat still_step
    refine wpStill_nil ?_
    go_wp2_with fail
    rw [← hw2]
    clear z0 t0 hw2
    refine wp_stl 6 (by kernel_rfl) (by kernel_rfl) ?_
    simp only [List.take_succ_cons, List.take_zero, List.drop_succ_cons, List.drop_zero]
    repeat still_step
    refine wpStill_nil ?_
    have hdel' := HDEL.out
    clear z1 q0
    go_wp2
    go_ret
    exact ⟨rfl, HFIN.out⟩
end Go.Proofs.Ythcnoamgkkbkcaa
