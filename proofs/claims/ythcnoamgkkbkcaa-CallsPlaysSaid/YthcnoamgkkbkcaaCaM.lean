/- Chapter 14, calls: in memory. -/
import Derived.Test.YthcnoamgkkbkcaaCaH
import Derived.Test.YthcnoamgkkbkcaaTiI
namespace Go.Proofs.Ythcnoamgkkbkcaa
open Go.RowKit

theorem inf95 : (Try.prog.info? 95).map (fun i => (i.zero, i.size, i.bytes)) = some (some (.agg #[.int .i64 0, .int .i64 0, .int .i64 0, .int .i64 0, .int .i64 0, .string ⟨#[]⟩, .string ⟨#[]⟩]), 7, 72) := by kernel_rfl
theorem info95 : (Try.prog.info? 95).map (·.size) = some 7 := by kernel_rfl
theorem inf32 : (Try.prog.info? 32).map (fun i => (i.zero, i.size, i.bytes)) = some (some (.agg #[.int .i64 0, .int .i64 0, .int .i64 0, .int .i64 0, .string ⟨#[]⟩]), 5, 48) := by kernel_rfl
theorem info32 : (Try.prog.info? 32).map (·.size) = some 5 := by kernel_rfl
theorem info29 : (Try.prog.info? 29).map (·.size) = some 3 := by kernel_rfl
theorem info101 : (Try.prog.info? 101).map (·.size) = some 6 := by kernel_rfl
theorem info99 : (Try.prog.info? 99).map (·.size) = some 2 := by kernel_rfl
/-- Rows of the reference's calls. -/
def kK : EK Try.prog Ck where
  cs k := [.int .i64 k.id, .int .i64 k.dst, .int .i64 k.st, .int .i64 k.sent, .int .i64 k.due, .string k.body, .string k.rep]
  sz := 7
  e := 95
  t := 27
  by_ := 72
  len _ := rfl
  one a u h := by
    simp only [List.mem_cons, List.not_mem_nil, or_false] at h
    rcases h with rfl | rfl | rfl | rfl | rfl | rfl | rfl <;> rfl
  pos := by decide
  und := Try.underlying27
  inf := ek_inf inf95 rfl
  small := by decide
/-- Rows of messages. -/
def kM : EK Try.prog Mg where
  cs k := [.int .i64 k.kind, .int .i64 k.frm, .int .i64 k.dst, .int .i64 k.id, .string k.body]
  sz := 5
  e := 32
  t := 40
  by_ := 48
  len _ := rfl
  one a u h := by
    simp only [List.mem_cons, List.not_mem_nil, or_false] at h
    rcases h with rfl | rfl | rfl | rfl | rfl <;> rfl
  pos := by decide
  und := Try.underlying40
  inf := ek_inf inf32 rfl
  small := by decide
/-- Maps of numbers to calls. -/
def kC : MK Try.prog Nat where
  m := 89
  k := 3
  e := 97
  val b := .pointer (some ⟨b, 0, none⟩)
  z := .pointer none
  und := Try.underlying89
  key := Try.underlying3
  zero w := Try.zeroValue97 w
def ckC (k : Ck) : Array Value := #[.int .i64 k.dst, .int .i64 k.sent, .int .i64 (wt k.sent), .string k.body, .int .i64 k.st, .string k.rep]
/-- The calls, each in its block. -/
structure CF (w : World) (B : Nat) (L : List Ck) (f : Int → Option Nat) : Prop where
  no : ∀ id, f id = none → ∀ k ∈ L, k.id ≠ id
  yes : ∀ id b, f id = some b → B ≤ b ∧ ∃ k ∈ L, k.id = id ∧ w.heap[b]? = some (.cells (ckC k) 101 (0, 0))
  inj : ∀ i j b, f i = some b → f j = some b → i = j
def cC (S : CS) (cm t : Nat) : Array Value := #[.int .i64 S.me, .int .i64 S.next, .map (some cm), .pointer (some ⟨t, 0, none⟩)]
/-- A node's calls in memory. -/
structure CV (w : World) (B g t p c cm : Nat) (v : Value) (S : CS) (x : List Tm) (f : Int → Option Nat) : Prop where
  o : w.heap[g]? = some (.cells (cC S cm t) 93 (0, 0))
  tx : TX w B t p c v x
  mp : kC.mp w cm f
  cf : CF w B S.L f
  ne : cm ≠ c
  bg : B ≤ g ∧ B ≤ cm
/-- Blocks of other kinds stay. -/
def Kp (w w' : World) : Prop := ∀ (q : Nat) (cs : Array Value) (ty : TypeId), w.heap[q]? = some (.cells cs ty (0, 0)) → ty ≠ 153 → ty ≠ 149 → ty ≠ 101 → ty ≠ 93 → w'.heap[q]? = some (.cells cs ty (0, 0))
theorem Kp.refl (w : World) : Kp w w := fun _ _ _ h _ _ _ _ => h
theorem Kp.trans {a b c : World} (h : Kp a b) (h2 : Kp b c) : Kp a c := fun q cs ty h0 h1 h3 h4 h5 => h2 q cs ty (h q cs ty h0 h1 h3 h4 h5) h1 h3 h4 h5
theorem Kp.of_below {w w' : World} (h : Below w.heap.size w w') : Kp w w' := fun _ _ _ h0 _ _ _ _ => obj_below h0 h
theorem CF.below {w w' : World} {B : Nat} {L : List Ck} {f : Int → Option Nat} (h : CF w B L f) (hb : Below w.heap.size w w') : CF w' B L f :=
  ⟨h.no, fun id b e => by
    obtain ⟨h1, k, h2, h3, h4⟩ := h.yes id b e
    exact ⟨h1, k, h2, h3, obj_below h4 hb⟩, h.inj⟩
section
variable {w w' : World} {B g t p c cm : Nat} {v : Value} {S : CS} {x : List Tm} {f : Int → Option Nat}
theorem CV.below (h : CV w B g t p c cm v S x f) (hb : Below w.heap.size w w') : CV w' B g t p c cm v S x f := ⟨obj_below h.o hb, h.tx.below hb, MK.mp_below h.mp hb, h.cf.below hb, h.ne, h.bg⟩
theorem CV.lt (h : CV w B g t p c cm v S x f) : g < w.heap.size ∧ cm < w.heap.size := ⟨obj_lt h.o, MK.mp_lt h.mp⟩
theorem CV.gm (h : CV w B g t p c cm v S x f) : g ≠ cm := by
  rintro rfl
  obtain ⟨es, k, h3⟩ := MK.mp_obj h.mp
  rw [h.o] at h3
  cases h3
/-- The map is none of the timers' blocks. -/
theorem CV.mapFar (h : CV w B g t p c cm v S x f) : ¬ (v.ownBlock = some cm ∨ cm = p ∨ cm = c) := by
  obtain ⟨es, k, h3⟩ := MK.mp_obj h.mp
  obtain ⟨_, ⟨l, ⟨f, h5, -⟩, -⟩, -⟩ := h.tx
  rintro (e | e | e)
  · obtain ⟨-, -, cs', h8⟩ := EK.row_typed h5.2.1 e
    rw [h3] at h8
    cases h8
  · have := h5.1
    rw [← e, h3] at this
    cases this
  · exact h.ne e
/-- The timers were turned. -/
theorem CV.timers (h : CV w B g t p c cm v S x f) {y : List Tm} (ha : TAft w B t p c v y w') : (∃ v', CV w' B g t p c cm v' S y f) ∧ Below B w w' ∧ Kp w w' := by
  have hb := TAft.bel h.tx ha
  obtain ⟨v', h1, h2, h3⟩ := ha
  refine ⟨⟨v', h.tx.far h3 h.o (by decide) (by decide), h1, MK.mp_fr h.mp h3 h.mapFar, ⟨h.cf.no, fun id b e => ?_, h.cf.inj⟩, h.ne, h.bg⟩, hb, fun q cs ty h0 t1 t2 t3 t4 => h.tx.far h3 h0 t1 t2⟩
  obtain ⟨g1, k, g2, g3, g4⟩ := h.cf.yes id b e
  exact ⟨g1, k, g2, g3, h.tx.far h3 g4 (by decide) (by decide)⟩
/-- What was due was taken from the timers. -/
theorem CV.due (h : CV w B g t p c cm v S x f) {now : Int} {ov : Value} (ha : DueQ w B t p c v x now ov w') : (∃ v', CV w' B g t p c cm v' S (tDue x now).1 f) ∧ Below B w w' ∧ Kp w w' ∧ kI.row w' w.heap.size ov (tDue x now).2 := by
  obtain ⟨v', h1, h2, h3, h4⟩ := ha
  obtain ⟨a1, a2, a3⟩ := h.timers (y := (tDue x now).1) ⟨v', h1, .inl h2, h4⟩
  exact ⟨a1, a2, a3, h3⟩
/-- Only block q is turned, and it is none of the timers'. -/
theorem TX.other (h : TX w B t p c v x) {q : Nat} (hf : Fr (fun j => j = q) w w') (h1 : q ≠ t) (h2 : q ≠ p) (h3 : q ≠ c) (h4 : v.ownBlock ≠ some q) : TX w' B t p c v x := by
  obtain ⟨o1, ⟨l, ⟨fa, hp, ha⟩, hh, hpm⟩, hB⟩ := h
  exact ⟨hf.obj o1 (fun e => h1 e.symm), ⟨l, ⟨fa, ⟨hf.obj hp.1 (fun e => h2 e.symm), EK.row_fr hp.2.1 hf (fun k hk e => h4 (e ▸ hk)), MK.mp_fr hp.2.2 hf (fun e => h3 e.symm)⟩, ha⟩, hh, hpm⟩, hB⟩
theorem TX.cells_far (h : TX w B t p c v x) {q : Nat} {cs : Array Value} {ty : TypeId} (ho : w.heap[q]? = some (.cells cs ty (0, 0))) (h1 : ty ≠ 153) (h2 : ty ≠ 149) (h3 : ty ≠ 151) : q ≠ t ∧ q ≠ p ∧ q ≠ c ∧ v.ownBlock ≠ some q := by
  obtain ⟨o1, ⟨l, ⟨fa, hp, ha⟩, hh, hpm⟩, hB⟩ := h
  refine ⟨fun e => ?_, fun e => ?_, fun e => ?_, fun e => ?_⟩
  · subst e
    rw [ho] at o1
    simp only [Option.some.injEq, Obj.cells.injEq] at o1
    exact h3 o1.2.1
  · subst e
    have := hp.1
    rw [ho] at this
    simp only [Option.some.injEq, Obj.cells.injEq] at this
    exact h2 this.2.1
  · subst e
    obtain ⟨es, k, h3⟩ := MK.mp_obj hp.2.2
    rw [ho] at h3
    cases h3
  · obtain ⟨-, -, cs', h8⟩ := EK.row_typed hp.2.1 e
    rw [ho] at h8
    simp only [Option.some.injEq, Obj.cells.injEq] at h8
    exact h1 h8.2.1
/-- A block of the calls' is turned: what it is of. -/
theorem CF.blk {L : List Ck} (h : CF w B L f) {id : Int} {b : Nat} (e : f id = some b) : ∃ k ∈ L, k.id = id ∧ w.heap[b]? = some (.cells (ckC k) 101 (0, 0)) := (h.yes id b e).2
/-- A call was turned in its block. -/
theorem CV.turn (h : CV w B g t p c cm v S x f) (_hs : S.L.Pairwise fun a b => a.id < b.id) {id : Int} {b : Nat} (e : f id = some b) {k : Ck} (hk : k ∈ S.L) (hi : k.id = id) {gg : Ck → Ck} (hgi : ∀ k, (gg k).id = k.id) (hf : Fr (fun j => j = b) w w') (hb : w'.heap[b]? = some (.cells (ckC (gg k)) 101 (0, 0))) :
    CV w' B g t p c cm v ⟨S.me, S.next, upd S.L id gg⟩ x f ∧ Below B w w' ∧ Kp w w' := by
  obtain ⟨g1, k0, g2, g3, g4⟩ := h.cf.yes id b e
  have hB := g1
  have hlt := obj_lt g4
  obtain ⟨n1, n2, n3, n4⟩ := h.tx.cells_far g4 (by decide) (by decide) (by decide)
  have ngb : g ≠ b := by
    rintro rfl
    have := h.o
    rw [g4] at this
    simp only [Option.some.injEq, Obj.cells.injEq] at this
    exact absurd this.2.1 (by decide)
  have nmb : cm ≠ b := by
    rintro rfl
    obtain ⟨es, k, h3⟩ := MK.mp_obj h.mp
    rw [g4] at h3
    cases h3
  refine ⟨⟨hf.obj h.o ngb, h.tx.other hf n1 n2 n3 n4, MK.mp_fr h.mp hf nmb, ⟨fun j hj m hm em => ?_, fun j d ej => ?_, h.cf.inj⟩, h.ne, h.bg⟩, hf.below B (by omega) (fun q hq e2 => by omega), fun q cs ty h0 _ _ t3 _ => hf.obj h0 (fun e2 => ?_)⟩
  · rcases upd_mem hm with ⟨k1, k2, k3, k4⟩ | ⟨k2, k3⟩
    · rw [k4, hgi] at em
      exact h.cf.no j hj k1 k2 em
    · exact h.cf.no j hj m k2 em
  · obtain ⟨d1, m, d2, d3, d4⟩ := h.cf.yes j d ej
    by_cases hjd : j = id
    · have hdb : d = b := by rw [hjd, e] at ej; exact (Option.some.inj ej).symm
      refine ⟨d1, gg k, ?_, by rw [hgi, hi, hjd], by rw [hdb]; exact hb⟩
      unfold upd
      exact List.mem_map.2 ⟨k, hk, by rw [if_pos hi]⟩
    · refine ⟨d1, m, ?_, d3, hf.obj d4 (fun e2 => hjd (h.cf.inj j id b (e2 ▸ ej) e))⟩
      unfold upd
      exact List.mem_map.2 ⟨m, d2, by rw [if_neg (by rw [d3]; exact hjd)]⟩
  · subst e2
    rw [h0] at g4
    simp only [Option.some.injEq, Obj.cells.injEq] at g4
    exact t3 g4.2.1
/-- The call of a number, found. -/
theorem CV.find (h : CV w B g t p c cm v S x f) (hs : S.L.Pairwise fun a b => a.id < b.id) (id : Int) : match fnd S.L id with
    | none => f id = none
    | some k => ∃ b, f id = some b ∧ w.heap[b]? = some (.cells (ckC k) 101 (0, 0)) := by
  rcases e : fnd S.L id with _ | k
  · simp only
    rcases e2 : f id with _ | b
    · rfl
    · obtain ⟨g1, k0, g2, g3, g4⟩ := h.cf.yes id b e2
      exact absurd g3 (fnd_none e k0 g2)
  · simp only
    obtain ⟨h1, h2⟩ := fnd_some e
    rcases e2 : f id with _ | b
    · exact absurd h2 (h.cf.no id e2 k h1)
    · obtain ⟨g1, k0, g2, g3, g4⟩ := h.cf.yes id b e2
      refine ⟨b, rfl, ?_⟩
      rw [← ids_inj hs g2 h1 (g3.trans h2.symm)]
      exact g4
end
end Go.Proofs.Ythcnoamgkkbkcaa
