/- Chapter 15, replies: the reference: Take. -/
import Derived.Test.YthcnoamgkkbkcaaRpR1
namespace Go.Proofs.Ythcnoamgkkbkcaa
open Go.RowKit

section
variable {P : Program} {α : Type} {K : EK P α}
/-- A part of a row that begins anywhere. -/
theorem EK.sg_part {w : World} {B : Nat} {v : Value} {l : List α} (h : K.sg w B v l) {lo hi : Nat} (h1 : lo ≤ hi) (h2 : hi ≤ l.length) (lo' hi' : Option Value) (hl : (lo' = none ∧ lo = 0) ∨ lo' = some (.int .i64 (lo : Int))) (hh : (hi' = none ∧ hi = l.length) ∨ hi' = some (.int .i64 (hi : Int))) :
    (∀ W : World, (Instr.sliceAt K.t v lo' hi' none).run P W = .ok (partV K.sz v lo hi) W) ∧ K.rd w (partV K.sz v lo hi) ((l.drop lo).take (hi - lo)) := by
  obtain ⟨i0, z0, hi0, hz0, hz1, hz2, hz3⟩ := K.inf
  have hlen : ((l.drop lo).take (hi - lo)).length = hi - lo := by rw [List.length_take, List.length_drop]; omega
  rcases h with ⟨rfl, rfl⟩ | ⟨g, o, cap, cur, rfl, hb, hc, hn, hm, hs, ht⟩
  · have hhi : hi = 0 := by simpa using h2
    have hlo : lo = 0 := by omega
    subst hhi hlo
    rw [show partV K.sz (.slice none 0 0) 0 0 = .slice none 0 0 from rfl]
    refine ⟨fun W => ?_, none, 0, rfl, Nat.le_refl _, Nat.zero_le _, .inl ⟨rfl, rfl⟩⟩
    rcases hl with ⟨rfl, _⟩ | rfl <;> rcases hh with ⟨rfl, _⟩ | rfl <;> simp [Instr.sliceAt, Instr.slice, Instr.sliceBounds, Instr.sliceBound, asIntOf, run_underlying K.und, sizeOf, typeInfo, hi0]
  · obtain ⟨ad, had⟩ : ∃ ad : Addr, ad = if cap = lo then ⟨g, o, none⟩ else (⟨g, o, none⟩ : Addr).add (lo * K.sz) := ⟨_, rfl⟩
    have hrun : ∀ W : World, (Instr.sliceAt K.t (.slice (some ⟨g, o, none⟩) l.length cap) lo' hi' none).run P W = .ok (.slice (some ad) (hi - lo) (cap - lo)) W := fun W => by
      have e1 : ¬ cap < hi := by omega
      have e2 : ¬ hi < lo := by omega
      have e3 : hi ≤ cap := by omega
      have key : ∀ x : Nat, x = hi → (if cap = lo then some (⟨g, o, none⟩ : Addr) else some ((⟨g, o, none⟩ : Addr).add (lo * K.sz))) = some ad := fun _ _ => by rw [had]; split <;> rfl
      rcases hl with ⟨rfl, rfl⟩ | rfl <;> rcases hh with ⟨rfl, rfl⟩ | rfl <;>
        simp [Instr.sliceAt, Instr.slice, Instr.sliceBounds, Instr.sliceBound, asIntOf, run_underlying K.und, sizeOf, typeInfo, hi0, hz1, h1, e3, had] <;> split <;> simp_all
    have hpv : partV K.sz (.slice (some ⟨g, o, none⟩) l.length cap) lo hi = .slice (some ad) (hi - lo) (cap - lo) := by
      rw [had]
      show Value.slice (if cap = lo then some ⟨g, o, none⟩ else (some (⟨g, o, none⟩ : Addr)).map (·.add (lo * K.sz))) (hi - lo) (cap - lo) = _
      congr 1
      split <;> rfl
    rw [hpv]
    refine ⟨hrun, some ad, cap - lo, by rw [hlen], by rw [hlen]; omega, by omega, .inr ⟨ad, rfl, fun j u hu => ?_⟩⟩
    have hj : j < (hi - lo) * K.sz := by
      have := (List.getElem?_eq_some_iff.1 hu).1
      rwa [EK.vlen, hlen] at this
    have hlo : cap ≠ lo := by
      rintro rfl
      have : hi - cap = 0 := by omega
      rw [this] at hj
      omega
    have hsz : lo * K.sz + (hi - lo) * K.sz ≤ l.length * K.sz := by
      rw [← Nat.add_mul]
      exact Nat.mul_le_mul_right _ (by omega)
    rw [if_neg hlo] at had
    rw [had, add_plain', add_plain', obj_cell hc, Nat.add_assoc, ht _ (by omega)]
    rw [EK.vtake (by rw [List.length_drop]; omega), EK.vdrop (by omega), List.getElem?_take, if_pos hj, List.getElem?_drop] at hu
    exact hu
/-- x c: the part ahead, copied; x s: the one; x a: both; x b: with the part behind; x z: kept. -/
structure TkG (K : EK P α) (w0 : World) (l : List α) (k : Nat) (q : α) (dc ds da db dz : Bool) (xc xs xa xb xz : Value) (w : World) : Prop where
  fr : Below w0.heap.size w0 w
  c : dc = true → da = false → K.row w w0.heap.size xc (l.take k)
  s : ds = true → da = false → ∃ b, xs = .slice (some ⟨b, 0, none⟩) 1 1 ∧ w.heap[b]? = some (.cells (K.cs q).toArray K.e (0, 0))
  a : da = true → db = false → K.row w w0.heap.size xa (l.take k ++ [q])
  b : db = true → K.row w w0.heap.size xb (l.take k ++ q :: l.drop k)
  z : dz = true → xz = xb
variable {w0 w : World} {B : Nat} {u : Value} {l : List α} {k : Nat} {q : α} {dc ds da db dz : Bool} {xc xs xa xb xz : Value}
theorem TkG.start (xc xs xa xb xz : Value) : TkG K w0 l k q false false false false false xc xs xa xb xz w0.drew :=
  ⟨(Below.refl _ _).drew, (fun e => by cases e), (fun e => by cases e), (fun e => by cases e), (fun e => by cases e), (fun e => by cases e)⟩
theorem TkG.copy (h : TkG K w0 l k q dc ds false false dz xc xs xa xb xz w) (hu : K.sg w0 B u l) (hk : k ≤ l.length) (hl : l.length ≤ 1048576) (ty : TypeId) :
    ∃ v2 w2, (Builtin.append_ #[K.t, K.t] ty #[.slice none 0 0, partV K.sz u 0 k]).run P w = .ok v2 w2 ∧ TkG K w0 l k q true ds false false dz v2 xs xa xb xz w2 := by
  have hp := (EK.sg_part (EK.sg_below hu h.fr) (Nat.zero_le k) hk (some (.int .i64 ((0 : Nat) : Int))) (some (.int .i64 (k : Int))) (.inr rfl) (.inr rfl)).2
  rw [List.drop_zero, Nat.sub_zero] at hp
  obtain ⟨v2, w2, hrun, hrow, hf, hv⟩ := EK.app (K := K) (EK.row_nil w w0.heap.size) hp (by simp; omega) h.fr.size ty
  have hb2 : Below w0.heap.size w w2 := hf.below _ h.fr.size (fun i _ e => by cases e)
  refine ⟨v2, w2, hrun, h.fr.trans hb2, fun _ _ => ?_, fun h1 h2 => ?_, (fun e => by cases e), (fun e => by cases e), h.z⟩
  · rwa [List.nil_append] at hrow
  · obtain ⟨b, e1, e2⟩ := h.s h1 h2
    exact ⟨b, e1, hf.obj e2 (fun e => by cases e)⟩
theorem TkG.build (h : TkG K w0 l k q dc ds false false dz xc xs xa xb xz w) (qc : Array Value) (hq : qc = (K.cs q).toArray) (ty : TypeId) (hty : ty = K.e) : TkG K w0 l k q dc true false false dz xc (.slice (some ⟨w.heap.size, 0, none⟩) 1 1) xa xb xz (w.alloc (.cells qc ty)) := by
  subst hq hty
  have hbl := (Below.refl w.heap.size w).alloc (Nat.le_refl _) (.cells (K.cs q).toArray K.e)
  exact ⟨h.fr.trans (hbl.mono h.fr.size), fun h1 h2 => EK.row_below (h.c h1 h2) hbl, fun _ _ => ⟨_, rfl, obj_new _ _⟩, (fun e => by cases e), (fun e => by cases e), h.z⟩
theorem TkG.app (h : TkG K w0 l k q true true false false dz xc xs xa xb xz w) (hl : l.length ≤ 1048576) (ty : TypeId) :
    ∃ b v3 w2, xs = .slice (some ⟨b, 0, none⟩) 1 1 ∧ (Builtin.append_ #[K.t, K.t] ty #[xc, .slice (some ⟨b, 0, none⟩) 1 1]).run P w = .ok v3 w2 ∧ TkG K w0 l k q true true true false dz xc xs v3 xb xz w2 := by
  obtain ⟨b, e1, e2⟩ := h.s rfl rfl
  have hc := h.c rfl rfl
  obtain ⟨v3, w2, hrun, hrow, hf, hv⟩ := EK.app hc (EK.rd_one q e2) (by simp; omega) h.fr.size ty
  exact ⟨b, v3, w2, e1, hrun, h.fr.trans (hf.below _ h.fr.size (fun i hi e => by
    have := (EK.row_typed hc e).1
    omega)), (fun _ e => by cases e), (fun _ e => by cases e), fun _ _ => hrow, (fun e => by cases e), h.z⟩
theorem TkG.app2 (h : TkG K w0 l k q dc ds true false false xc xs xa xb xz w) (hu : K.sg w0 B u l) (hk : k ≤ l.length) (hl : l.length ≤ 1048576) (ty : TypeId) :
    ∃ v4 w2, (Builtin.append_ #[K.t, K.t] ty #[xa, partV K.sz u k l.length]).run P w = .ok v4 w2 ∧ TkG K w0 l k q dc ds true true false xc xs xa v4 xz w2 := by
  have ha := h.a rfl rfl
  have hp := (EK.sg_part (EK.sg_below hu h.fr) hk (Nat.le_refl _) (some (.int .i64 (k : Int))) none (.inr rfl) (.inl ⟨rfl, rfl⟩)).2
  rw [List.take_of_length_le (by rw [List.length_drop]; omega)] at hp
  obtain ⟨v4, w2, hrun, hrow, hf, hv⟩ := EK.app ha hp (by simp; omega) h.fr.size ty
  rw [List.append_assoc] at hrow
  exact ⟨v4, w2, hrun, h.fr.trans (hf.below _ h.fr.size (fun i hi e => by
    have := (EK.row_typed ha e).1
    omega)), (fun _ e => by cases e), (fun _ e => by cases e), (fun _ e => by cases e), fun _ => hrow, (fun e => by cases e)⟩
end
theorem wpList_slice_n {P : Program} {ops : Array Oper} {rest : List Oper} {o : Oper} {a : Act} {w : World} {Q : Exit → Act → World → Prop} (hgd : o.guard = none) (ty : TypeId) (x : Operand) (lo hi : Option Operand) (ho : o.op = .slice ty x lo hi none) {v u : Value} {l' h' : Option Value} (hx : a.eval x = v) (hl : lo.map a.eval = l') (hh : hi.map a.eval = h')
    (hrun : (Instr.sliceAt ty v l' h' none).run P w = .ok u w) (h : wpList P ops Q rest (a.put o.dst u) w) : wpList P ops Q (o :: rest) a w :=
  wpList_plain hgd fun _ hK => wp_slice_n ty x lo hi ho hx hl hh hrun (hK _ _ h)
theorem wpStill_loadv {P : Program} {ops : Array Oper} {w : World} {Q : Act → Prop} {a : Act} {o : Oper} {rest : List Oper} (hgd : o.guard = none) (ty : TypeId) (x : Operand) (ho : o.op = .load ty x) {p v : Value} (hx : a.eval x = p)
    (hrun : (Instr.loadAt ty p).run P w = .ok v w) (h : wpStill P ops w Q rest (a.put o.dst v)) : wpStill P ops w Q (o :: rest) a :=
  wpStill_step fun K hK => by
    rw [if_pos (wanted_none' hgd _)]
    unfold Oper.still execOp
    simp only [ho, hx, Sem.run_bind, hrun, Result.andThen_ok, Sem.run_pure]
    exact ⟨rfl, hK _ h⟩
theorem wp_loadv {P : Program} {o : Oper} {a : Act} {w : World} {K : Act → World → Prop} {Q : Exit → Act → World → Prop} (ty : TypeId) (x : Operand) (ho : o.op = .load ty x) {p v : Value} (hx : a.eval x = p)
    (hrun : (Instr.loadAt ty p).run P w = .ok v w) (h : K (a.put o.dst v) w) : Oper.wp P o a w K Q := by
  unfold Oper.wp execOp
  simp only [ho, hx, Sem.run_bind, hrun, Result.andThen_ok, Sem.run_pure]
  exact h
/-- As before, the world told apart: an operation of another kind falls at once. -/
theorem wpList_loadW {P : Program} {ops : Array Oper} {rest : List Oper} {o : Oper} {a : Act} {w w0 : World} {Q : Exit → Act → World → Prop} (hgd : o.guard = none) (ty : TypeId) (x : Operand) (ho : o.op = .load ty x) {p v : Value} (hx : a.eval x = p)
    (hrun : (Instr.loadAt ty p).run P w0 = .ok v w0) (hw : w = w0) (h : wpList P ops Q rest (a.put o.dst v) w) : wpList P ops Q (o :: rest) a w := by
  subst hw
  exact wpList_loadv' hgd ty x ho hx hrun h
theorem wpList_storeW {P : Program} {ops : Array Oper} {rest : List Oper} {o : Oper} {a : Act} {w w0 w' : World} {Q : Exit → Act → World → Prop} (hgd : o.guard = none) (ty : TypeId) (x y : Operand) (ho : o.op = .store ty x y) {p v : Value} (hx : a.eval x = p) (hy : a.eval y = v)
    (hrun : (Instr.storeAt ty p v).run P w0 = .ok () w') (hw : w = w0) (h : wpList P ops Q rest (a.put o.dst undef) w') : wpList P ops Q (o :: rest) a w := by
  subst hw
  exact wpList_storev' hgd ty x y ho hx hy hrun h
theorem wpList_sliceW {P : Program} {ops : Array Oper} {rest : List Oper} {o : Oper} {a : Act} {w w0 : World} {Q : Exit → Act → World → Prop} (hgd : o.guard = none) (ty : TypeId) (x : Operand) (lo hi : Option Operand) (ho : o.op = .slice ty x lo hi none) {v u : Value} {l' h' : Option Value} (hx : a.eval x = v) (hl : lo.map a.eval = l') (hh : hi.map a.eval = h')
    (hrun : (Instr.sliceAt ty v l' h' none).run P w0 = .ok u w0) (hw : w = w0) (h : wpList P ops Q rest (a.put o.dst u) w) : wpList P ops Q (o :: rest) a w := by
  subst hw
  exact wpList_slice_n hgd ty x lo hi ho hx hl hh hrun h
/-- The reference's calls, handed back: loaded out of block b, stored into block b2. -/
theorem endQ {w W : World} {B b b2 : Nat} {C C2 : Array Value} {S : RS} (h : QR W B C S) (hb : W.heap[b]? = some (.cells C 68 (0, 0))) (hb2 : W.heap[b2]? = some (.cells C2 68 (0, 0))) (hs : C2.size = 65) (hB : Below w.heap.size w W) (hn : w.heap.size ≤ b2) :
    (Instr.loadAt 68 (.pointer (some ⟨b, 0, none⟩))).run Try.prog W = .ok (.agg C) W ∧ (Instr.storeAt 68 (.pointer (some ⟨b2, 0, none⟩)) (.agg C)).run Try.prog W = .ok () (W.setRow b2 C) ∧ (W.setRow b2 C).heap[b2]? = some (.cells C 68 (0, 0)) ∧ (Try.prog.info? 68).map (·.size) = some C.size ∧ QR (W.setRow b2 C) B C S ∧ Below w.heap.size w (W.setRow b2 C) := by
  have F := setRow_fr' W b2 C
  refine ⟨load68 h hb, store68 h hs hb2, setRow_at' hb2, by rw [h.sz]; exact info68s, h.fr F (fun j cs e _ e2 => ?_), hB.trans (F.below _ hB.size (fun j hj e => by omega))⟩
  rw [e2, hb2] at e
  simp only [Option.some.injEq, Obj.cells.injEq] at e
  exact absurd e.2.1 (by decide)
def tkPost (w : World) (B : Nat) (S : RS) (how : Int) (rep : ByteArray) (e : Ending) (w' : World) : Prop :=
  ∃ C', e = .returned (.tuple #[.agg C', .int .i64 how, .string rep]) ∧ QR w' B C' S ∧ Below w.heap.size w w'
def tkA (bn : Nat) (A : Option Addr) (n cap k d : Nat) (id : Int) (u x : Nat → Value) : Act := ⟨#[u 0, .int .i64 (d : Int), .int .i64 id, .pointer (some ⟨bn, 0, none⟩), u 4, u 5, .pointer (some ⟨(bn + 1), 0, none⟩), u 7, u 8, .slice A n cap, .int .i64 (k : Int), u 11, x 12, u 13, u 14, u 15, u 16, u 17, u 18, u 19, u 20, u 21, u 22, u 23, u 24, u 25, u 26, u 27, u 28, u 29, u 30, u 31, u 32, u 33, u 34, u 35, u 36, u 37, u 38, u 39, u 40, u 41, u 42, u 43, u 44, u 45, u 46, u 47, u 48, u 49, u 50, u 51, u 52, u 53, u 54, u 55, u 56, x 0, x 1, x 2, x 3, x 4, x 5, x 6, x 7, x 8, x 9, x 10, x 11, u 69, u 70, u 71, u 72, u 73, u 74, u 75, u 76, u 77, u 78, u 79, u 80], []⟩
def tkV (A : Option Addr) (n cap k : Nat) (id : Int) (qx : Nat) (qw : Value) : Prop :=
  match qx with
  | 0 => qw = .slice A n cap
  | 1 => qw = .int .i64 (k : Int)
  | 2 => qw = partV 3 (.slice A n cap) 0 k
  | 4 => qw = .int .i64 id
  | 5 => qw = .agg #[.int .i64 id, .bool true, .string ⟨#[]⟩]
  | 8 => qw = .slice A n cap
  | 9 => qw = .int .i64 (k : Int)
  | 10 => qw = partV 3 (.slice A n cap) k n
  | _ => True
def tmA (bn : Nat) (C : Array Value) (b o n cap k d : Nat) (id : Int) (u x : Nat → Value) : Act := ⟨#[.agg C, .int .i64 (d : Int), .int .i64 id, .pointer (some ⟨bn, 0, none⟩), u 4, u 5, .pointer (some ⟨(bn + 1), 0, none⟩), x 7, x 8, .slice (some ⟨b, o, none⟩) n cap, .int .i64 (k : Int), u 11, u 12, u 13, u 14, u 15, u 16, u 17, u 18, u 19, u 20, u 21, u 22, u 23, u 24, u 25, u 26, u 27, u 28, u 29, u 30, u 31, u 32, u 33, u 34, u 35, u 36, u 37, u 38, u 39, x 0, x 1, x 2, x 3, x 4, x 5, u 46, u 47, u 48, u 49, u 50, u 51, u 52, u 53, u 54, u 55, u 56, u 57, u 58, u 59, u 60, u 61, u 62, u 63, u 64, u 65, u 66, u 67, u 68, u 69, u 70, u 71, u 72, u 73, u 74, u 75, u 76, u 77, u 78, u 79, u 80], []⟩
def tmV (C : Array Value) (b o n cap k : Nat) (xr : ByteArray) (qx : Nat) (qw : Value) : Prop :=
  match qx with
  | 0 => qw = .agg C
  | 1 => qw = .slice (some ⟨b, o, none⟩) n cap
  | 2 => qw = .int .i64 (k : Int)
  | 3 => qw = .pointer (some ⟨b, o + k * 3, none⟩)
  | 4 => qw = .pointer (some ⟨b, o + k * 3 + 2, none⟩)
  | 5 => qw = .string xr
  | 7 => qw = .int .i64 2
  | 8 => qw = .string xr
  | _ => True
set_option maxHeartbeats 16000000 in
set_option maxRecDepth 100000 in
theorem takeQ_any {w : World} {B : Nat} {C : Array Value} {S : RS} (h : QR w B C S) (hk : ROk S) (hB : B ≤ w.heap.size) (c id : Int) :
    Calls Try.prog 36 #[.agg C, .int .i64 c, .int .i64 id] w fun e w' => tkPost w B (rTake S c id).1 (rTake S c id).2.1 (rTake S c id).2.2 e w' := by
  have hal := ((Below.refl w.heap.size w).alloc (Nat.le_refl _) (.cells C 68)).alloc (by simp) (.cells Try.zeroCells68 68)
  have HB := hide hal
  have HO := hide (obj_alloc (obj_new w (.cells C 68)) (.cells Try.zeroCells68 68))
  have HP := hide (obj_new' w (.cells C 68) (.cells Try.zeroCells68 68))
  have HMR := hide (fun W => mayQ_any c id W)
  have HQ0 := hide (h.below hal)
  clear hal
  rcases rTake_cases S c id with ⟨hm, e⟩ | ⟨hm, hcase⟩
  · rw [e]
    rw [decide_eq_false hm] at HMR
    clear h hk hm e
    obtain ⟨hld, hst, hat, hsz, hq, hbe⟩ := endQ HQ0.out HO.out HP.out (qr_zero w 0).sz HB.out (Nat.le_succ _)
    have HLD := hide hld
    have HST := hide hst
    have HAT := hide hat
    have HSZ := hide hsz
    have HQ := hide hq
    have HBE := hide hbe
    clear hld hst hat hsz hq hbe
    go_enter Try.func36, Try.ntmps36
    go_wp2_with fail
    refine (HMR.out _).mono ?_
    rintro e w1 ⟨rfl, rfl⟩
    go_wp2_with (first | (refine wpList_loadW ?_ 68 (.tmp 3) ?_ ?_ HLD.out ?_ ?_; rfl; rfl; rfl; rfl) | (refine wpList_storeW ?_ 68 (.tmp 6) (.tmp 17) ?_ ?_ ?_ HST.out ?_ ?_; rfl; rfl; rfl; rfl; rfl))
    refine bodyPost_ret (res_ctt rfl _ _ (w.heap.size + 1) 68 _ (0, 0) _ rfl HAT.out Try.underlying68 rfl HSZ.out) rfl ?_
    refine ⟨_, ?_, HQ.out, HBE.out⟩
    rfl
  rw [decide_eq_true hm] at HMR
  obtain ⟨ci, rfl⟩ : ∃ ci : Nat, c = (ci : Int) := ⟨c.toNat, by have := hm.1; omega⟩
  have hd : ci < 64 := by have := hm.2.1; omega
  have hdi : (ci : Int) < 64 := by omega
  obtain ⟨v, hv, hsg⟩ := h.L ci hd
  have z1 := obj_cell HO.out (1 + ci)
  rw [hv] at z1
  have hlen := hk.len ci
  have hroom := hk.room
  have hsrt := hk.srt ci
  have HTK := hide (fun hn => hk.take (c := (ci : Int)) (id := id) hm hn)
  obtain ⟨l, hl⟩ : ∃ l, l = S.L (ci : Int) := ⟨_, rfl⟩
  have HL := hide hl
  rw [← hl] at hlen hsg hsrt hcase HTK
  obtain ⟨A, cap, e, hc1, hc2⟩ := EK.sg_slice hsg
  rw [e] at z1 hsg hv
  have HSGW := hide (EK.sg_below hsg HB.out)
  have HFI := hide (findQ_any HSGW.out hsrt (by omega) id)
  obtain ⟨n, hn⟩ : ∃ n, n = l.length := ⟨_, rfl⟩
  rw [← hn] at z1 HSGW HFI hc1 hlen hv
  rw [← hn] at hcase
  have HV := hide hv
  have HN := hide hn
  have hle := ahd_le l id
  rw [← hn] at hle
  obtain ⟨i, hi⟩ : ∃ i, i = ahd l id := ⟨_, rfl⟩
  rw [← hi] at hle hcase HFI
  have HI := hide hi
  have HLE := hide hle
  simp only [maxLen] at hc2
  have hn16 : n ≤ 16 := by omega
  clear h hk hm hsg e hl hsrt hi hn hv
  rcases hcase with ⟨x, e0, hid, hx⟩ | ⟨hno, hx⟩
  · have hat : isAt l id = true := by
      unfold isAt
      rw [← HI.out, e0]
      simpa using hid
    rw [hat] at HFI
    obtain ⟨hil, hxe⟩ := List.getElem?_eq_some_iff.1 e0
    have HXE := hide (show ∃ hl : i < l.length, l[i] = x from ⟨hil, hxe⟩)
    obtain ⟨xid, xb, xr⟩ := x
    have hin : (i : Int) < (n : Int) := by have := HN.out; omega
    clear hat hil hxe e0 hle
    rcases hx with ⟨hb, e⟩ | ⟨hb, e⟩
    · simp only at hb
      subst hb
      rw [e]
      clear e hid
      go_enter Try.func36, Try.ntmps36
      go_wp2_with fail
      refine (HMR.out _).mono ?_
      rintro e w1 ⟨rfl, rfl⟩
      go_wp2_with fail
      refine HFI.out.mono ?_
      rintro e w1 ⟨rfl, hb1⟩
      have hbb := HB.out.trans (hb1.mono HB.out.size)
      obtain ⟨b, o, c', e1, -, -, -, -, hcell⟩ := EK.sg_cells (EK.sg_below HSGW.out hb1) HXE.out.1
      rw [← HN.out] at e1
      injection e1 with e1a e1b e1c
      subst e1a e1c
      have q1 := hcell 1 (by decide)
      rw [HXE.out.2] at q1
      simp only [kQ, eC, List.getElem?_cons_zero, List.getElem?_cons_succ] at q1
      obtain ⟨hld, hst, hat, hsz, hq, hbe⟩ := endQ (HQ0.out.below hb1) (obj_below HO.out hb1) (obj_below HP.out hb1) (qr_zero w 0).sz hbb (Nat.le_succ _)
      have HLD := hide hld
      have HST := hide hst
      have HAT := hide hat
      have HSZ := hide hsz
      have HQ := hide hq
      have HBE := hide hbe
      clear hld hst hat hsz hq hbe
      clear hcell hb1 hbb e1b
      go_wp2_with (first | (refine wpList_loadW ?_ 68 (.tmp 3) ?_ ?_ HLD.out ?_ ?_; rfl; rfl; rfl; rfl) | (refine wpList_storeW ?_ 68 (.tmp 6) (.tmp 37) ?_ ?_ ?_ HST.out ?_ ?_; rfl; rfl; rfl; rfl; rfl))
      refine bodyPost_ret (res_ctt rfl _ _ (w.heap.size + 1) 68 _ (0, 0) _ rfl HAT.out Try.underlying68 rfl HSZ.out) rfl ?_
      refine ⟨_, ?_, HQ.out, HBE.out⟩
      rfl
    · simp only at hb
      subst hb
      rw [e]
      simp only
      clear e hid
      go_enter Try.func36, Try.ntmps36
      go_wp2_with fail
      refine (HMR.out _).mono ?_
      rintro e w1 ⟨rfl, rfl⟩
      go_wp2_with fail
      refine HFI.out.mono ?_
      rintro e w1 ⟨rfl, hb1⟩
      have hbb := HB.out.trans (hb1.mono HB.out.size)
      obtain ⟨b, o, c', e1, -, -, -, -, hcell⟩ := EK.sg_cells (EK.sg_below HSGW.out hb1) HXE.out.1
      rw [← HN.out] at e1
      injection e1 with e1a e1b e1c
      subst e1a e1c
      have q1 := hcell 1 (by decide)
      have q2 := hcell 2 (by decide)
      rw [HXE.out.2] at q1 q2
      simp only [kQ, eC, List.getElem?_cons_zero, List.getElem?_cons_succ] at q1 q2
      have HO1 := hide (obj_below HO.out hb1)
      have HP1 := hide (obj_below HP.out hb1)
      have HQ1 := hide (HQ0.out.below hb1)
      have HBB := hide hbb
      have HCL := hide (show ∀ W, Fr (fun j => j = w.heap.size + 1) w1 W → W.cell? ⟨b, o + i * 3 + 2, none⟩ = some (.string xr) from fun W hf => by
        have hsgW := EK.sg_fr (EK.sg_below HSGW.out hb1) hf (EK.sg_ne (EK.sg_below HSGW.out hb1) HP1.out (by decide))
        obtain ⟨b', o', c', e1, -, -, -, -, hcell⟩ := EK.sg_cells hsgW HXE.out.1
        injection e1 with e1a e1b e1c
        injection e1a with e1a
        injection e1a with e1a e1d
        subst e1a e1d
        have q2 := hcell 2 (by decide)
        rw [HXE.out.2] at q2
        exact q2)
      clear hcell hb1 hbb e1b
      go_wp2_with fail
      clear q1 q2
      refine wp_region_c (tmA w.heap.size C b o n cap i ci id) (fun j => #[40, 41, 42, 43, 44, 45, 0, 7, 8].getD j 0) (fun d x w' => OsG w1 (w.heap.size + 1) 68 Try.zeroCells68 C (d 6) w') (fun qi qv => tmV C b o n cap i xr qi qv) (by kernel_rfl) (by kernel_rfl) rfl (OsG.start HP1.out) ?_ ?_ ?_
      · exact fun u => ⟨fun x v => rfl, fun x v => rfl, fun x v => rfl, fun x v => rfl, fun x v => rfl, fun x v => rfl, fun x v => rfl, fun x v => rfl, fun x v => rfl, trivial⟩
      · refine fun u => ⟨?_, ?_, ?_, ?_, ?_, ?_, ?_, ?_, ?_, trivial⟩
        · intro d x w' hS hdi hv hp hcl K hK
          have hS1 : OsG w1 (w.heap.size + 1) 68 Try.zeroCells68 C (d 6) w' := hS
          refine ⟨rfl, ?_⟩
          unfold tmA at hK ⊢
          refine wp_loadv 68 (.tmp 3) rfl rfl (load68 HQ0.out (hS1.fr.obj HO1.out (by omega))) ?_
          exact hK _ w' hS rfl
        · intro d x w' hS hdi hv hp hcl K hK
          refine ⟨rfl, ?_⟩
          unfold tmA at hK ⊢
          go_wp2
          exact hK (.slice (some ⟨b, o, none⟩) n cap) w' hS rfl
        · intro d x w' hS hdi hv hp hcl K hK
          refine ⟨rfl, ?_⟩
          unfold tmA at hK ⊢
          go_wp2
          exact hK (.int .i64 (i : Int)) w' hS rfl
        · intro d x w' hS hdi hv hp hcl K hK
          have d0 : x 1 = .slice (some ⟨b, o, none⟩) n cap := hv 1 (hp 1 (by kernel_rfl))
          have d1 : x 2 = .int .i64 (i : Int) := hv 2 (hp 2 (by kernel_rfl))
          refine ⟨rfl, ?_⟩
          unfold tmA at hK ⊢
          simp only [d0, d1] at hK ⊢
          go_wp2
          exact hK (.pointer (some ⟨b, o + i * 3, none⟩)) w' hS rfl
        · intro d x w' hS hdi hv hp hcl K hK
          have d0 : x 3 = .pointer (some ⟨b, o + i * 3, none⟩) := hv 3 (hp 3 (by kernel_rfl))
          refine ⟨rfl, ?_⟩
          unfold tmA at hK ⊢
          simp only [d0] at hK ⊢
          go_wp2
          exact hK (.pointer (some ⟨b, o + i * 3 + 2, none⟩)) w' hS rfl
        · intro d x w' hS hdi hv hp hcl K hK
          have d0 : x 4 = .pointer (some ⟨b, o + i * 3 + 2, none⟩) := hv 4 (hp 4 (by kernel_rfl))
          have hS1 : OsG w1 (w.heap.size + 1) 68 Try.zeroCells68 C (d 6) w' := hS
          have q2 := HCL.out w' hS1.fr
          refine ⟨rfl, ?_⟩
          unfold tmA at hK ⊢
          simp only [d0] at hK ⊢
          go_wp2
          exact hK (.string xr) w' hS rfl
        · intro d x w' hS hdi hv hp hcl K hK
          have d0 : x 0 = .agg C := hv 0 (hp 0 (by kernel_rfl))
          have hS1 : OsG w1 (w.heap.size + 1) 68 Try.zeroCells68 C (d 6) w' := hS
          rw [hdi] at hS1
          obtain ⟨hrun, hS2⟩ := hS1.store (P := Try.prog) (ty := 68) (by rw [HQ0.out.sz]; exact info68s) (by rw [HQ0.out.sz]; exact (qr_zero w 0).sz) HQ0.out.one
          refine ⟨rfl, ?_⟩
          unfold tmA at hK ⊢
          simp only [d0] at hK ⊢
          refine wp_storev' 68 (.tmp 6) (.tmp 40) rfl rfl rfl hrun ?_
          exact hK undef _ (show OsG w1 (w.heap.size + 1) 68 Try.zeroCells68 C true _ from hS2) trivial
        · intro d x w' hS hdi hv hp hcl K hK
          refine ⟨rfl, ?_⟩
          unfold tmA at hK ⊢
          go_wp2
          exact hK (.int .i64 2) w' hS rfl
        · intro d x w' hS hdi hv hp hcl K hK
          have d0 : x 5 = .string xr := hv 5 (hp 5 (by kernel_rfl))
          refine ⟨rfl, ?_⟩
          unfold tmA at hK ⊢
          simp only [d0] at hK ⊢
          go_wp2
          exact hK (.string xr) w' hS rfl
      · intro u hu d x w2 hS hd' hv'
        have hS1 : OsG w1 (w.heap.size + 1) 68 Try.zeroCells68 C (d 6) w2 := hS
        rw [hd' 6 (by decide)] at hS1
        have hO := hS1.o
        rw [if_pos rfl] at hO
        have HOO := hide hO
        have e7 : x 7 = .int .i64 2 := hv' 7 (by decide)
        have e8 : x 8 = .string xr := hv' 8 (by decide)
        have hQ2 := HQ1.out.fr hS1.fr (fun j cs e _ e2 => by
          rw [e2, HP1.out] at e
          simp only [Option.some.injEq, Obj.cells.injEq] at e
          exact absurd e.2.1 (by decide))
        have HQ2 := hide hQ2
        have HB2 := hide (HBB.out.trans (hS1.fr.below _ HBB.out.size (fun j hj e => by omega)))
        clear hS hS1 hd' hv' hu hO hQ2
        unfold tmA
        simp only [e7, e8]
        go_wp2
        refine bodyPost_ret (res_ctt rfl _ _ (w.heap.size + 1) 68 _ (0, 0) _ rfl HOO.out Try.underlying68 rfl (by rw [HQ0.out.sz]; exact info68s)) rfl ?_
        refine ⟨_, ?_, HQ2.out, HB2.out⟩
        rfl
  · have hat : isAt l id = false := isAt_no (fun e h => hno e (by rw [HI.out]; exact h))
    rw [hat] at HFI
    have hn' : ∀ e, l[ahd l id]? = some e → e.id ≠ id := fun e h => hno e (by rw [HI.out]; exact h)
    have HTK2 := hide (HTK.out hn').2
    clear hat hno HTK hn'
    have zr := obj_cell HO.out 0
    rw [HQ0.out.rm] at zr
    obtain ⟨rm, hrm⟩ : ∃ r, r = S.room := ⟨_, rfl⟩
    have HRM := hide hrm
    rw [← hrm] at zr hx hroom hlen
    rcases hx with ⟨hf1, hf2, e⟩ | ⟨hf, e⟩
    · rw [e]
      subst hf2
      clear e hrm hle
      have hfi : (rm : Int) ≤ (n : Int) := by omega
      clear hf1
      go_enter Try.func36, Try.ntmps36
      go_wp2_with fail
      refine (HMR.out _).mono ?_
      rintro e w1 ⟨rfl, rfl⟩
      go_wp2_with fail
      refine HFI.out.mono ?_
      rintro e w1 ⟨rfl, hb1⟩
      have hbb := HB.out.trans (hb1.mono HB.out.size)
      have z0 := obj_cell (obj_below HO.out hb1) 0
      rw [HQ0.out.rm, ← HRM.out] at z0
      obtain ⟨hld, hst, hat, hsz, hq, hbe⟩ := endQ (HQ0.out.below hb1) (obj_below HO.out hb1) (obj_below HP.out hb1) (qr_zero w 0).sz hbb (Nat.le_succ _)
      have HLD := hide hld
      have HST := hide hst
      have HAT := hide hat
      have HSZ := hide hsz
      have HQ := hide hq
      have HBE := hide hbe
      clear hld hst hat hsz hq hbe
      clear hb1 hbb
      go_wp2_with (first | (refine wpList_loadW ?_ 68 (.tmp 3) ?_ ?_ HLD.out ?_ ?_; rfl; rfl; rfl; rfl) | (refine wpList_storeW ?_ 68 (.tmp 6) (.tmp 56) ?_ ?_ ?_ HST.out ?_ ?_; rfl; rfl; rfl; rfl; rfl))
      refine bodyPost_ret (res_ctt rfl _ _ (w.heap.size + 1) 68 _ (0, 0) _ rfl HAT.out Try.underlying68 rfl HSZ.out) rfl ?_
      refine ⟨_, ?_, HQ.out, HBE.out⟩
      rfl
    · rw [e]
      have hcut : ((n : Int) = rm ∧ ¬ i = 0) ∨ ((n : Int) < rm) := by omega
      clear e hrm hf
      go_enter Try.func36, Try.ntmps36
      go_wp2_with fail
      refine (HMR.out _).mono ?_
      rintro e w1 ⟨rfl, rfl⟩
      go_wp2_with fail
      refine HFI.out.mono ?_
      rintro e w1 ⟨rfl, hb1⟩
      have hbb := HB.out.trans (hb1.mono HB.out.size)
      have z0 := obj_cell (obj_below HO.out hb1) 0
      rw [HQ0.out.rm, ← HRM.out] at z0
      have HSG := hide (EK.sg_below HSGW.out hb1)
      have HIL := hide (show i ≤ l.length from by have := HN.out; have := HLE.out; omega)
      have HLM := hide (show l.length ≤ 1048576 from by have := HN.out; omega)
      have HSP1 := hide (EK.sg_part HSG.out (Nat.zero_le i) HIL.out none (some (.int .i64 (i : Int))) (.inl ⟨rfl, rfl⟩) (.inr rfl)).1
      have HSP2 := hide (EK.sg_part HSG.out HIL.out (Nat.le_refl _) (some (.int .i64 (i : Int))) none (.inr rfl) (.inl ⟨rfl, rfl⟩)).1
      rw [← HN.out] at HSP2
      have HO1 := hide (obj_below HO.out hb1)
      have HP1 := hide (obj_below HP.out hb1)
      have HQ1 := hide (HQ0.out.below hb1)
      have HBB := hide hbb
      have HBS := hide hB
      have HD := hide hd
      clear hb1 hbb hB hd hle
      rcases hcut with ⟨hnr, hi0⟩ | hlt
      · have hi0' : ((i : Int) == 0) = false := by simp; exact hi0
        have hge : rm ≤ (n : Int) := by omega
        have hcmp : rm < (n : Int) + 1 := by omega
        clear hi0
        go_wp2_with fail
        refine wp_region_c (tkA w.heap.size A n cap i ci id) (fun j => #[57, 58, 59, 60, 61, 62, 63, 64, 65, 66, 67, 68, 12].getD j 0) (fun d x w' => TkG kQ w1 l i (⟨id, true, ByteArray.empty⟩ : En) (d 3) (d 6) (d 7) (d 11) (d 12) (x 3) (x 6) (x 7) (x 11) (x 12) w') (fun qi qv => tkV A n cap i id qi qv) (by kernel_rfl) (by kernel_rfl) rfl (TkG.start _ _ _ _ _) ?_ ?_ ?_
        · exact fun u => ⟨fun x v => rfl, fun x v => rfl, fun x v => rfl, fun x v => rfl, fun x v => rfl, fun x v => rfl, fun x v => rfl, fun x v => rfl, fun x v => rfl, fun x v => rfl, fun x v => rfl, fun x v => rfl, fun x v => rfl, trivial⟩
        · refine fun u => ⟨?_, ?_, ?_, ?_, ?_, ?_, ?_, ?_, ?_, ?_, ?_, ?_, ?_, trivial⟩
          · intro d x w' hS hdi hv hp hcl K hK
            refine ⟨rfl, ?_⟩
            unfold tkA at hK ⊢
            go_wp2
            exact hK (.slice A n cap) w' hS rfl
          · intro d x w' hS hdi hv hp hcl K hK
            refine ⟨rfl, ?_⟩
            unfold tkA at hK ⊢
            go_wp2
            exact hK (.int .i64 (i : Int)) w' hS rfl
          · intro d x w' hS hdi hv hp hcl K hK
            have d0 : x 0 = .slice A n cap := hv 0 (hp 0 (by kernel_rfl))
            have d1 : x 1 = .int .i64 (i : Int) := hv 1 (hp 1 (by kernel_rfl))
            refine ⟨rfl, ?_⟩
            unfold tkA at hK ⊢
            simp only [d0, d1] at hK ⊢
            refine wp_slice_n 65 (.tmp 57) none (some (.tmp 58)) rfl rfl rfl rfl (HSP1.out w') ?_
            exact hK _ w' hS rfl
          · intro d x w' hS hdi hv hp hcl K hK
            have d0 : x 2 = partV 3 (.slice A n cap) 0 i := hv 2 (hp 2 (by kernel_rfl))
            have na : d 7 = false := Bool.eq_false_iff.2 (fun hz => absurd (hcl 7 3 hz (by kernel_rfl)) (by rw [hdi]; decide))
            have nb : d 11 = false := Bool.eq_false_iff.2 (fun hz => absurd (hcl 11 7 hz (by kernel_rfl)) (by rw [na]; decide))
            have hS1 : TkG kQ w1 l i (⟨id, true, ByteArray.empty⟩ : En) (d 3) (d 6) (d 7) (d 11) (d 12) (x 3) (x 6) (x 7) (x 11) (x 12) w' := hS
            rw [na, nb] at hS1
            obtain ⟨v2, w2, hrun, hS2⟩ := hS1.copy HSG.out HIL.out HLM.out 65
            refine ⟨rfl, ?_⟩
            unfold tkA at hK ⊢
            simp only [d0] at hK ⊢
            refine wp_append_n (.const (.slice none 0 0)) (.tmp 59) 65 65 rfl rfl rfl hrun ?_
            exact hK v2 w2 (show TkG kQ w1 l i (⟨id, true, ByteArray.empty⟩ : En) (true) (d 6) (d 7) (d 11) (d 12) (v2) (x 6) (x 7) (x 11) (x 12) w2 by rw [na, nb]; exact hS2) trivial
          · intro d x w' hS hdi hv hp hcl K hK
            refine ⟨rfl, ?_⟩
            unfold tkA at hK ⊢
            go_wp2
            exact hK (.int .i64 id) w' hS rfl
          · intro d x w' hS hdi hv hp hcl K hK
            have d0 : x 4 = .int .i64 id := hv 4 (hp 4 (by kernel_rfl))
            refine ⟨rfl, ?_⟩
            unfold tkA at hK ⊢
            simp only [d0] at hK ⊢
            go_wp2
            exact hK (.agg #[.int .i64 id, .bool true, .string ⟨#[]⟩]) w' hS rfl
          · intro d x w' hS hdi hv hp hcl K hK
            have d0 : x 5 = .agg #[.int .i64 id, .bool true, .string ⟨#[]⟩] := hv 5 (hp 5 (by kernel_rfl))
            have na : d 7 = false := Bool.eq_false_iff.2 (fun hz => absurd (hcl 7 6 hz (by kernel_rfl)) (by rw [hdi]; decide))
            have nb : d 11 = false := Bool.eq_false_iff.2 (fun hz => absurd (hcl 11 7 hz (by kernel_rfl)) (by rw [na]; decide))
            have hS1 : TkG kQ w1 l i (⟨id, true, ByteArray.empty⟩ : En) (d 3) (d 6) (d 7) (d 11) (d 12) (x 3) (x 6) (x 7) (x 11) (x 12) w' := hS
            rw [na, nb] at hS1
            refine ⟨rfl, ?_⟩
            unfold tkA at hK ⊢
            simp only [d0] at hK ⊢
            go_wp2
            exact hK (.slice (some ⟨w'.heap.size, 0, none⟩) 1 1) _ (show TkG kQ w1 l i (⟨id, true, ByteArray.empty⟩ : En) (d 3) (true) (d 7) (d 11) (d 12) (x 3) (.slice (some ⟨w'.heap.size, 0, none⟩) 1 1) (x 7) (x 11) (x 12) _ by rw [na, nb]; exact hS1.build #[.int .i64 id, .bool true, .string ⟨#[]⟩] rfl 113 rfl) trivial
          · intro d x w' hS hdi hv hp hcl K hK
            have yc : d 3 = true := hp 3 (by kernel_rfl)
            have ys : d 6 = true := hp 6 (by kernel_rfl)
            have nb : d 11 = false := Bool.eq_false_iff.2 (fun hz => absurd (hcl 11 7 hz (by kernel_rfl)) (by rw [hdi]; decide))
            have hS1 : TkG kQ w1 l i (⟨id, true, ByteArray.empty⟩ : En) (d 3) (d 6) (d 7) (d 11) (d 12) (x 3) (x 6) (x 7) (x 11) (x 12) w' := hS
            rw [hdi, yc, ys, nb] at hS1
            obtain ⟨b, v3, w2, e1, hrun, hS2⟩ := hS1.app HLM.out 65
            refine ⟨rfl, ?_⟩
            unfold tkA at hK ⊢
            simp only [e1] at hK ⊢
            refine wp_append_n (.tmp 60) (.tmp 63) 65 65 rfl rfl rfl hrun ?_
            exact hK v3 w2 (show TkG kQ w1 l i (⟨id, true, ByteArray.empty⟩ : En) (d 3) (d 6) (true) (d 11) (d 12) (x 3) (.slice (some ⟨b, 0, none⟩) 1 1) (v3) (x 11) (x 12) w2 by rw [yc, ys, nb]; rw [e1] at hS2; exact hS2) trivial
          · intro d x w' hS hdi hv hp hcl K hK
            refine ⟨rfl, ?_⟩
            unfold tkA at hK ⊢
            go_wp2
            exact hK (.slice A n cap) w' hS rfl
          · intro d x w' hS hdi hv hp hcl K hK
            refine ⟨rfl, ?_⟩
            unfold tkA at hK ⊢
            go_wp2
            exact hK (.int .i64 (i : Int)) w' hS rfl
          · intro d x w' hS hdi hv hp hcl K hK
            have d0 : x 8 = .slice A n cap := hv 8 (hp 8 (by kernel_rfl))
            have d1 : x 9 = .int .i64 (i : Int) := hv 9 (hp 9 (by kernel_rfl))
            refine ⟨rfl, ?_⟩
            unfold tkA at hK ⊢
            simp only [d0, d1] at hK ⊢
            refine wp_slice_n 65 (.tmp 65) (some (.tmp 66)) none rfl rfl rfl rfl (HSP2.out w') ?_
            exact hK _ w' hS rfl
          · intro d x w' hS hdi hv hp hcl K hK
            have d1 : x 10 = partV 3 (.slice A n cap) i n := hv 10 (hp 10 (by kernel_rfl))
            have ya : d 7 = true := hp 7 (by kernel_rfl)
            have nz : d 12 = false := Bool.eq_false_iff.2 (fun hz => absurd (hcl 12 11 hz (by kernel_rfl)) (by rw [hdi]; decide))
            have hS1 : TkG kQ w1 l i (⟨id, true, ByteArray.empty⟩ : En) (d 3) (d 6) (d 7) (d 11) (d 12) (x 3) (x 6) (x 7) (x 11) (x 12) w' := hS
            rw [hdi, ya, nz] at hS1
            obtain ⟨v4, w2, hrun, hS2⟩ := hS1.app2 HSG.out HIL.out HLM.out 65
            rw [← HN.out] at hrun
            refine ⟨rfl, ?_⟩
            unfold tkA at hK ⊢
            simp only [d1] at hK ⊢
            refine wp_append_n (.tmp 64) (.tmp 67) 65 65 rfl rfl rfl hrun ?_
            exact hK v4 w2 (show TkG kQ w1 l i (⟨id, true, ByteArray.empty⟩ : En) (d 3) (d 6) (d 7) (true) (d 12) (x 3) (x 6) (x 7) (v4) (x 12) w2 by rw [ya, nz]; exact hS2) trivial
          · intro d x w' hS hdi hv hp hcl K hK
            have hS1 : TkG kQ w1 l i (⟨id, true, ByteArray.empty⟩ : En) (d 3) (d 6) (d 7) (d 11) (d 12) (x 3) (x 6) (x 7) (x 11) (x 12) w' := hS
            refine ⟨rfl, ?_⟩
            unfold tkA at hK ⊢
            go_wp2
            exact hK (x 11) w' (show TkG kQ w1 l i (⟨id, true, ByteArray.empty⟩ : En) (d 3) (d 6) (d 7) (d 11) (true) (x 3) (x 6) (x 7) (x 11) (x 11) w' from ⟨hS1.fr, hS1.c, hS1.s, hS1.a, hS1.b, fun _ => rfl⟩) trivial
        · intro u hu d x w2 hS hd' hv'
          have hS1 : TkG kQ w1 l i (⟨id, true, ByteArray.empty⟩ : En) (d 3) (d 6) (d 7) (d 11) (d 12) (x 3) (x 6) (x 7) (x 11) (x 12) w2 := hS
          have hrow := hS1.b (hd' 11 (by decide))
          have hz := hS1.z (hd' 12 (by decide))
          have hf2 := hS1.fr
          rw [← hz] at hrow
          have hml : (l.take i ++ (⟨id, true, ByteArray.empty⟩ : En) :: l.drop i).length = n + 1 := by
            rw [List.length_append, List.length_cons, List.length_take, List.length_drop, ← HN.out]
            have := HLE.out
            omega
          obtain ⟨m3, hm3⟩ : ∃ m, m = l.take i ++ (⟨id, true, ByteArray.empty⟩ : En) :: l.drop i := ⟨_, rfl⟩
          rw [← hm3] at hrow hml
          have HM3 := hide (show m3 = putIn l id from by rw [hm3, HI.out]; rfl)
          obtain ⟨x12, hx12⟩ : ∃ y, y = x 12 := ⟨_, rfl⟩
          rw [← hx12] at hrow
          obtain ⟨A3, c3, e3⟩ := EK.row_slice hrow
          rw [hml] at e3
          have hO2 := obj_below HO1.out hf2
          have hP2 := obj_below HP1.out hf2
          have hQ2 := HQ1.out.below hf2
          have hB2 := HBB.out.trans (hf2.mono HBB.out.size)
          have HB2 := hide hB2
          have z0 := obj_cell hO2 0
          rw [HQ0.out.rm, ← HRM.out] at z0
          have zd := obj_cell hO2 (1 + ci)
          rw [HV.out] at zd
          have td := obj_frozen hO2 (1 + ci)
          have hsg3 := EK.sg_base (EK.row_sg hrow) (show B ≤ w1.heap.size from Nat.le_trans HBS.out HBB.out.size)
          have hrow1 := EK.sg_below hsg3 (Below.refl _ _)
          obtain ⟨v4, hrun4, hsg4, hown4⟩ := EK.sg_tail hsg3 (k := 1) (by rw [hml]; have := hroom.1; omega)
          obtain ⟨A4, c4, e4, -, -⟩ := EK.sg_slice hsg4
          rw [List.length_drop, hml, Nat.add_sub_cancel] at e4
          have HSL : Hid ((Instr.sliceAt 65 (.slice A3 (n + 1) c3) (some (.int .i64 1)) none none).run Try.prog w2 = .ok (.slice A4 n c4) w2) := hide (by rw [e3] at hrun4; rw [← e4]; exact hrun4)
          rw [e4] at hsg4
          have F := (Fr.refl (fun j => j = w.heap.size) w2).setCell (p := ⟨w.heap.size, 1 + ci, none⟩) (fun _ => rfl) (.slice A4 n c4)
          have hQ3 : QR (w2.setCell ⟨w.heap.size, 1 + ci, none⟩ (.slice A4 n c4)) B (C.setIfInBounds (1 + ci) (.slice A4 n c4)) ⟨S.room, setL S.L (ci : Int) (lastOf S.room (putIn (S.L (ci : Int)) id))⟩ := by
            refine (QR.set hQ2 HD.out (l := lastOf S.room (putIn (S.L (ci : Int)) id)) ?_).fr F (fun j cs e1 _ e2 => ?_)
            · rw [← HL.out, ← HM3.out]
              unfold lastOf
              rw [hml, ← HRM.out, show n + 1 - rm.toNat = 1 by omega]
              exact hsg4
            · rw [e2, hO2] at e1
              simp only [Option.some.injEq, Obj.cells.injEq] at e1
              exact absurd e1.2.1 (by decide)
          have hO3 := obj_set hO2 (1 + ci) (.slice A4 n c4)
          have hP3 := F.obj hP2 (by omega)
          have hB3 : Below w.heap.size w (w2.setCell ⟨w.heap.size, 1 + ci, none⟩ (.slice A4 n c4)) := hB2.trans (F.below _ hB2.size (fun j hj e => by omega))
          obtain ⟨hld, hst, hat, hsz, hq, hbe⟩ := endQ hQ3 hO3 hP3 (qr_zero w 0).sz hB3 (Nat.le_succ _)
          rw [← HRM.out, ← HL.out] at hq
          have HLD := hide hld
          have HST := hide hst
          have HAT := hide hat
          have HSZ := hide hsz
          have HQ := hide hq
          have HBE := hide hbe
          unfold tkA
          simp only [← hx12, e3]
          clear hrow1 hrun4 hsg4 hown4 e4 hld hst hat hsz hq hbe hS hS1 hd' hv' hu hrow hz hf2 hm3 hO2 hP2 hQ2 hB2 hsg3 F hQ3 hO3 hP3 hB3 hml z1 zr hx12 e3
          go_wp2_with (first | (refine wpList_sliceW ?_ 65 (.tmp 74) (some (.const (.int .i64 1))) none ?_ ?_ ?_ ?_ HSL.out ?_ ?_; rfl; rfl; rfl; rfl; rfl; rfl) | (refine wpList_loadW ?_ 68 (.tmp 3) ?_ ?_ HLD.out ?_ ?_; rfl; rfl; rfl; rfl) | (refine wpList_storeW ?_ 68 (.tmp 6) (.tmp 80) ?_ ?_ ?_ HST.out ?_ ?_; rfl; rfl; rfl; rfl; rfl))
          refine bodyPost_ret (res_ctt rfl _ _ (w.heap.size + 1) 68 _ (0, 0) _ rfl HAT.out Try.underlying68 rfl HSZ.out) rfl ?_
          refine ⟨_, ?_, HQ.out, HBE.out⟩
          rfl
      · have hge : ¬ rm ≤ (n : Int) := by omega
        have hcmp : ¬ rm < (n : Int) + 1 := by omega
        go_wp2_with fail
        refine wp_region_c (tkA w.heap.size A n cap i ci id) (fun j => #[57, 58, 59, 60, 61, 62, 63, 64, 65, 66, 67, 68, 12].getD j 0) (fun d x w' => TkG kQ w1 l i (⟨id, true, ByteArray.empty⟩ : En) (d 3) (d 6) (d 7) (d 11) (d 12) (x 3) (x 6) (x 7) (x 11) (x 12) w') (fun qi qv => tkV A n cap i id qi qv) (by kernel_rfl) (by kernel_rfl) rfl (TkG.start _ _ _ _ _) ?_ ?_ ?_
        · exact fun u => ⟨fun x v => rfl, fun x v => rfl, fun x v => rfl, fun x v => rfl, fun x v => rfl, fun x v => rfl, fun x v => rfl, fun x v => rfl, fun x v => rfl, fun x v => rfl, fun x v => rfl, fun x v => rfl, fun x v => rfl, trivial⟩
        · refine fun u => ⟨?_, ?_, ?_, ?_, ?_, ?_, ?_, ?_, ?_, ?_, ?_, ?_, ?_, trivial⟩
          · intro d x w' hS hdi hv hp hcl K hK
            refine ⟨rfl, ?_⟩
            unfold tkA at hK ⊢
            go_wp2
            exact hK (.slice A n cap) w' hS rfl
          · intro d x w' hS hdi hv hp hcl K hK
            refine ⟨rfl, ?_⟩
            unfold tkA at hK ⊢
            go_wp2
            exact hK (.int .i64 (i : Int)) w' hS rfl
          · intro d x w' hS hdi hv hp hcl K hK
            have d0 : x 0 = .slice A n cap := hv 0 (hp 0 (by kernel_rfl))
            have d1 : x 1 = .int .i64 (i : Int) := hv 1 (hp 1 (by kernel_rfl))
            refine ⟨rfl, ?_⟩
            unfold tkA at hK ⊢
            simp only [d0, d1] at hK ⊢
            refine wp_slice_n 65 (.tmp 57) none (some (.tmp 58)) rfl rfl rfl rfl (HSP1.out w') ?_
            exact hK _ w' hS rfl
          · intro d x w' hS hdi hv hp hcl K hK
            have d0 : x 2 = partV 3 (.slice A n cap) 0 i := hv 2 (hp 2 (by kernel_rfl))
            have na : d 7 = false := Bool.eq_false_iff.2 (fun hz => absurd (hcl 7 3 hz (by kernel_rfl)) (by rw [hdi]; decide))
            have nb : d 11 = false := Bool.eq_false_iff.2 (fun hz => absurd (hcl 11 7 hz (by kernel_rfl)) (by rw [na]; decide))
            have hS1 : TkG kQ w1 l i (⟨id, true, ByteArray.empty⟩ : En) (d 3) (d 6) (d 7) (d 11) (d 12) (x 3) (x 6) (x 7) (x 11) (x 12) w' := hS
            rw [na, nb] at hS1
            obtain ⟨v2, w2, hrun, hS2⟩ := hS1.copy HSG.out HIL.out HLM.out 65
            refine ⟨rfl, ?_⟩
            unfold tkA at hK ⊢
            simp only [d0] at hK ⊢
            refine wp_append_n (.const (.slice none 0 0)) (.tmp 59) 65 65 rfl rfl rfl hrun ?_
            exact hK v2 w2 (show TkG kQ w1 l i (⟨id, true, ByteArray.empty⟩ : En) (true) (d 6) (d 7) (d 11) (d 12) (v2) (x 6) (x 7) (x 11) (x 12) w2 by rw [na, nb]; exact hS2) trivial
          · intro d x w' hS hdi hv hp hcl K hK
            refine ⟨rfl, ?_⟩
            unfold tkA at hK ⊢
            go_wp2
            exact hK (.int .i64 id) w' hS rfl
          · intro d x w' hS hdi hv hp hcl K hK
            have d0 : x 4 = .int .i64 id := hv 4 (hp 4 (by kernel_rfl))
            refine ⟨rfl, ?_⟩
            unfold tkA at hK ⊢
            simp only [d0] at hK ⊢
            go_wp2
            exact hK (.agg #[.int .i64 id, .bool true, .string ⟨#[]⟩]) w' hS rfl
          · intro d x w' hS hdi hv hp hcl K hK
            have d0 : x 5 = .agg #[.int .i64 id, .bool true, .string ⟨#[]⟩] := hv 5 (hp 5 (by kernel_rfl))
            have na : d 7 = false := Bool.eq_false_iff.2 (fun hz => absurd (hcl 7 6 hz (by kernel_rfl)) (by rw [hdi]; decide))
            have nb : d 11 = false := Bool.eq_false_iff.2 (fun hz => absurd (hcl 11 7 hz (by kernel_rfl)) (by rw [na]; decide))
            have hS1 : TkG kQ w1 l i (⟨id, true, ByteArray.empty⟩ : En) (d 3) (d 6) (d 7) (d 11) (d 12) (x 3) (x 6) (x 7) (x 11) (x 12) w' := hS
            rw [na, nb] at hS1
            refine ⟨rfl, ?_⟩
            unfold tkA at hK ⊢
            simp only [d0] at hK ⊢
            go_wp2
            exact hK (.slice (some ⟨w'.heap.size, 0, none⟩) 1 1) _ (show TkG kQ w1 l i (⟨id, true, ByteArray.empty⟩ : En) (d 3) (true) (d 7) (d 11) (d 12) (x 3) (.slice (some ⟨w'.heap.size, 0, none⟩) 1 1) (x 7) (x 11) (x 12) _ by rw [na, nb]; exact hS1.build #[.int .i64 id, .bool true, .string ⟨#[]⟩] rfl 113 rfl) trivial
          · intro d x w' hS hdi hv hp hcl K hK
            have yc : d 3 = true := hp 3 (by kernel_rfl)
            have ys : d 6 = true := hp 6 (by kernel_rfl)
            have nb : d 11 = false := Bool.eq_false_iff.2 (fun hz => absurd (hcl 11 7 hz (by kernel_rfl)) (by rw [hdi]; decide))
            have hS1 : TkG kQ w1 l i (⟨id, true, ByteArray.empty⟩ : En) (d 3) (d 6) (d 7) (d 11) (d 12) (x 3) (x 6) (x 7) (x 11) (x 12) w' := hS
            rw [hdi, yc, ys, nb] at hS1
            obtain ⟨b, v3, w2, e1, hrun, hS2⟩ := hS1.app HLM.out 65
            refine ⟨rfl, ?_⟩
            unfold tkA at hK ⊢
            simp only [e1] at hK ⊢
            refine wp_append_n (.tmp 60) (.tmp 63) 65 65 rfl rfl rfl hrun ?_
            exact hK v3 w2 (show TkG kQ w1 l i (⟨id, true, ByteArray.empty⟩ : En) (d 3) (d 6) (true) (d 11) (d 12) (x 3) (.slice (some ⟨b, 0, none⟩) 1 1) (v3) (x 11) (x 12) w2 by rw [yc, ys, nb]; rw [e1] at hS2; exact hS2) trivial
          · intro d x w' hS hdi hv hp hcl K hK
            refine ⟨rfl, ?_⟩
            unfold tkA at hK ⊢
            go_wp2
            exact hK (.slice A n cap) w' hS rfl
          · intro d x w' hS hdi hv hp hcl K hK
            refine ⟨rfl, ?_⟩
            unfold tkA at hK ⊢
            go_wp2
            exact hK (.int .i64 (i : Int)) w' hS rfl
          · intro d x w' hS hdi hv hp hcl K hK
            have d0 : x 8 = .slice A n cap := hv 8 (hp 8 (by kernel_rfl))
            have d1 : x 9 = .int .i64 (i : Int) := hv 9 (hp 9 (by kernel_rfl))
            refine ⟨rfl, ?_⟩
            unfold tkA at hK ⊢
            simp only [d0, d1] at hK ⊢
            refine wp_slice_n 65 (.tmp 65) (some (.tmp 66)) none rfl rfl rfl rfl (HSP2.out w') ?_
            exact hK _ w' hS rfl
          · intro d x w' hS hdi hv hp hcl K hK
            have d1 : x 10 = partV 3 (.slice A n cap) i n := hv 10 (hp 10 (by kernel_rfl))
            have ya : d 7 = true := hp 7 (by kernel_rfl)
            have nz : d 12 = false := Bool.eq_false_iff.2 (fun hz => absurd (hcl 12 11 hz (by kernel_rfl)) (by rw [hdi]; decide))
            have hS1 : TkG kQ w1 l i (⟨id, true, ByteArray.empty⟩ : En) (d 3) (d 6) (d 7) (d 11) (d 12) (x 3) (x 6) (x 7) (x 11) (x 12) w' := hS
            rw [hdi, ya, nz] at hS1
            obtain ⟨v4, w2, hrun, hS2⟩ := hS1.app2 HSG.out HIL.out HLM.out 65
            rw [← HN.out] at hrun
            refine ⟨rfl, ?_⟩
            unfold tkA at hK ⊢
            simp only [d1] at hK ⊢
            refine wp_append_n (.tmp 64) (.tmp 67) 65 65 rfl rfl rfl hrun ?_
            exact hK v4 w2 (show TkG kQ w1 l i (⟨id, true, ByteArray.empty⟩ : En) (d 3) (d 6) (d 7) (true) (d 12) (x 3) (x 6) (x 7) (v4) (x 12) w2 by rw [ya, nz]; exact hS2) trivial
          · intro d x w' hS hdi hv hp hcl K hK
            have hS1 : TkG kQ w1 l i (⟨id, true, ByteArray.empty⟩ : En) (d 3) (d 6) (d 7) (d 11) (d 12) (x 3) (x 6) (x 7) (x 11) (x 12) w' := hS
            refine ⟨rfl, ?_⟩
            unfold tkA at hK ⊢
            go_wp2
            exact hK (x 11) w' (show TkG kQ w1 l i (⟨id, true, ByteArray.empty⟩ : En) (d 3) (d 6) (d 7) (d 11) (true) (x 3) (x 6) (x 7) (x 11) (x 11) w' from ⟨hS1.fr, hS1.c, hS1.s, hS1.a, hS1.b, fun _ => rfl⟩) trivial
        · intro u hu d x w2 hS hd' hv'
          have hS1 : TkG kQ w1 l i (⟨id, true, ByteArray.empty⟩ : En) (d 3) (d 6) (d 7) (d 11) (d 12) (x 3) (x 6) (x 7) (x 11) (x 12) w2 := hS
          have hrow := hS1.b (hd' 11 (by decide))
          have hz := hS1.z (hd' 12 (by decide))
          have hf2 := hS1.fr
          rw [← hz] at hrow
          have hml : (l.take i ++ (⟨id, true, ByteArray.empty⟩ : En) :: l.drop i).length = n + 1 := by
            rw [List.length_append, List.length_cons, List.length_take, List.length_drop, ← HN.out]
            have := HLE.out
            omega
          obtain ⟨m3, hm3⟩ : ∃ m, m = l.take i ++ (⟨id, true, ByteArray.empty⟩ : En) :: l.drop i := ⟨_, rfl⟩
          rw [← hm3] at hrow hml
          have HM3 := hide (show m3 = putIn l id from by rw [hm3, HI.out]; rfl)
          obtain ⟨x12, hx12⟩ : ∃ y, y = x 12 := ⟨_, rfl⟩
          rw [← hx12] at hrow
          obtain ⟨A3, c3, e3⟩ := EK.row_slice hrow
          rw [hml] at e3
          have hO2 := obj_below HO1.out hf2
          have hP2 := obj_below HP1.out hf2
          have hQ2 := HQ1.out.below hf2
          have hB2 := HBB.out.trans (hf2.mono HBB.out.size)
          have HB2 := hide hB2
          have z0 := obj_cell hO2 0
          rw [HQ0.out.rm, ← HRM.out] at z0
          have zd := obj_cell hO2 (1 + ci)
          rw [HV.out] at zd
          have td := obj_frozen hO2 (1 + ci)
          have hsg3 := EK.sg_base (EK.row_sg hrow) (show B ≤ w1.heap.size from Nat.le_trans HBS.out HBB.out.size)
          rw [e3] at hsg3
          have F := (Fr.refl (fun j => j = w.heap.size) w2).setCell (p := ⟨w.heap.size, 1 + ci, none⟩) (fun _ => rfl) (.slice A3 (n + 1) c3)
          have hQ3 : QR (w2.setCell ⟨w.heap.size, 1 + ci, none⟩ (.slice A3 (n + 1) c3)) B (C.setIfInBounds (1 + ci) (.slice A3 (n + 1) c3)) ⟨S.room, setL S.L (ci : Int) (lastOf S.room (putIn (S.L (ci : Int)) id))⟩ := by
            refine (QR.set hQ2 HD.out (l := lastOf S.room (putIn (S.L (ci : Int)) id)) ?_).fr F (fun j cs e1 _ e2 => ?_)
            · rw [← HL.out, ← HM3.out]
              unfold lastOf
              rw [hml, ← HRM.out, show n + 1 - rm.toNat = 0 by omega]
              rw [List.drop_zero]
              exact hsg3
            · rw [e2, hO2] at e1
              simp only [Option.some.injEq, Obj.cells.injEq] at e1
              exact absurd e1.2.1 (by decide)
          have hO3 := obj_set hO2 (1 + ci) (.slice A3 (n + 1) c3)
          have hP3 := F.obj hP2 (by omega)
          have hB3 : Below w.heap.size w (w2.setCell ⟨w.heap.size, 1 + ci, none⟩ (.slice A3 (n + 1) c3)) := hB2.trans (F.below _ hB2.size (fun j hj e => by omega))
          obtain ⟨hld, hst, hat, hsz, hq, hbe⟩ := endQ hQ3 hO3 hP3 (qr_zero w 0).sz hB3 (Nat.le_succ _)
          rw [← HRM.out, ← HL.out] at hq
          have HLD := hide hld
          have HST := hide hst
          have HAT := hide hat
          have HSZ := hide hsz
          have HQ := hide hq
          have HBE := hide hbe
          unfold tkA
          simp only [← hx12, e3]
          clear hld hst hat hsz hq hbe hS hS1 hd' hv' hu hrow hz hf2 hm3 hO2 hP2 hQ2 hB2 hsg3 F hQ3 hO3 hP3 hB3 hml z1 zr hx12 e3
          go_wp2_with (first | (refine wpList_loadW ?_ 68 (.tmp 3) ?_ ?_ HLD.out ?_ ?_; rfl; rfl; rfl; rfl) | (refine wpList_storeW ?_ 68 (.tmp 6) (.tmp 80) ?_ ?_ ?_ HST.out ?_ ?_; rfl; rfl; rfl; rfl; rfl))
          refine bodyPost_ret (res_ctt rfl _ _ (w.heap.size + 1) 68 _ (0, 0) _ rfl HAT.out Try.underlying68 rfl HSZ.out) rfl ?_
          refine ⟨_, ?_, HQ.out, HBE.out⟩
          rfl
end Go.Proofs.Ythcnoamgkkbkcaa
