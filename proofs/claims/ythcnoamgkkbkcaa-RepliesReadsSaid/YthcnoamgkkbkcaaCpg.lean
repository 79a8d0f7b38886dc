/- Generic: a row copied, one element put behind it, stored into a field of a struct, in a region that draws its order. -/
import Derived.Test.YthcnoamgkkbkcaaApd
namespace Go.Proofs.Ythcnoamgkkbkcaa
open Go.RowKit

section
variable {P : Program} {α : Type} {K : EK P α}
theorem EK.row_ne {w : World} {B : Nat} {v : Value} {l : List α} (h : K.row w B v l) {k : Nat} {cs : Array Value} {t : TypeId} {f : Nat × Nat} (hk : w.heap[k]? = some (.cells cs t f)) (ht : t ≠ K.e) : v.ownBlock ≠ some k := by
  intro e
  obtain ⟨_, _, cs', h2⟩ := EK.row_typed h e
  rw [hk] at h2
  simp only [Option.some.injEq, Obj.cells.injEq] at h2
  exact ht h2.2.1
/-- x c: the copy, x s: the one, x a: both; stored into field f of block bn, of cells cs. -/
structure CpG (K : EK P α) (w0 : World) (bn f : Nat) (cs : Array Value) (ot : TypeId) (u : Value) (l : List α) (q : α) (dc ds da de : Bool) (xc xs xa : Value) (w : World) : Prop where
  fr : Fr (fun j => j = bn) w0 w
  o : w.heap[bn]? = some (.cells (if de = true then cs.setIfInBounds f xa else cs) ot (0, 0))
  c : dc = true → da = false → K.row w w0.heap.size xc l
  s : ds = true → da = false → ∃ b, xs = .slice (some ⟨b, 0, none⟩) 1 1 ∧ w.heap[b]? = some (.cells (K.cs q).toArray K.e (0, 0))
  a : da = true → K.row w w0.heap.size xa (l ++ [q])
  e : de = true → da = true
variable {w0 w : World} {bn f : Nat} {cs : Array Value} {ot : TypeId} {u : Value} {l : List α} {q : α} {dc ds da de : Bool} {xc xs xa : Value}
theorem CpG.start (ho : w0.heap[bn]? = some (.cells cs ot (0, 0))) (xc xs xa : Value) : CpG K w0 bn f cs ot u l q false false false false xc xs xa w0.drew :=
  ⟨(Fr.refl _ _).drew, ho, (fun e => by cases e), (fun e => by cases e), (fun e => by cases e), (fun e => by cases e)⟩
theorem CpG.orow (h : CpG K w0 bn f cs ot u l q dc ds da de xc xs xa w) (hr : K.row w0 0 u l) (hb : u.ownBlock ≠ some bn) : K.row w 0 u l :=
  EK.row_fr hr h.fr (fun _ hk e => hb (e ▸ hk))
theorem CpG.copy (h : CpG K w0 bn f cs ot u l q dc ds false de xc xs xa w) (hr : K.row w0 0 u l) (hb : u.ownBlock ≠ some bn) (hl : l.length ≤ 1048576) (ty : TypeId) :
    ∃ v2 w2, (Builtin.append_ #[K.t, K.t] ty #[.slice none 0 0, u]).run P w = .ok v2 w2 ∧ CpG K w0 bn f cs ot u l q true ds false de v2 xs xa w2 := by
  obtain ⟨v2, w2, hrun, hrow, hf, hv⟩ := EK.app (K := K) (EK.row_nil w w0.heap.size) (EK.row_rd (h.orow hr hb)) (by simp; omega) h.fr.size ty
  refine ⟨v2, w2, hrun, h.fr.trans hf (fun i _ e => by cases e), hf.obj h.o (fun e => by cases e), fun _ _ => ?_, fun h1 h2 => ?_, (fun e => by cases e), h.e⟩
  · rwa [List.nil_append] at hrow
  · obtain ⟨b, e1, e2⟩ := h.s h1 h2
    exact ⟨b, e1, hf.obj e2 (fun e => by cases e)⟩
theorem CpG.build (h : CpG K w0 bn f cs ot u l q dc ds false de xc xs xa w) (qc : Array Value) (hq : qc = (K.cs q).toArray) (ty : TypeId) (hty : ty = K.e) : CpG K w0 bn f cs ot u l q dc true false de xc (.slice (some ⟨w.heap.size, 0, none⟩) 1 1) xa (w.alloc (.cells qc ty)) := by
  subst hq hty
  have hbl := (Below.refl w.heap.size w).alloc (Nat.le_refl _) (.cells (K.cs q).toArray K.e)
  exact ⟨h.fr.alloc _, obj_alloc h.o _, fun h1 h2 => EK.row_below (h.c h1 h2) hbl, fun _ _ => ⟨_, rfl, obj_new _ _⟩, (fun e => by cases e), h.e⟩
theorem CpG.app (h : CpG K w0 bn f cs ot u l q true true false de xc xs xa w) (hot : ot ≠ K.e) (hl : l.length ≤ 1048576) (ty : TypeId) :
    ∃ b v3 w2, xs = .slice (some ⟨b, 0, none⟩) 1 1 ∧ (Builtin.append_ #[K.t, K.t] ty #[xc, .slice (some ⟨b, 0, none⟩) 1 1]).run P w = .ok v3 w2 ∧ CpG K w0 bn f cs ot u l q true true true false xc xs v3 w2 := by
  obtain ⟨b, e1, e2⟩ := h.s rfl rfl
  have hc := h.c rfl rfl
  have hde : de = false := by
    rcases de with _ | _
    · rfl
    · exact absurd (h.e rfl) (by decide)
  subst hde
  obtain ⟨v3, w2, hrun, hrow, hf, hv⟩ := EK.app hc (EK.rd_one q e2) (by simp; omega) h.fr.size ty
  refine ⟨b, v3, w2, e1, hrun, h.fr.trans hf (fun i hi e => ?_), hf.obj h.o (EK.row_ne hc h.o hot), (fun _ e => by cases e), (fun _ e => by cases e), fun _ => hrow, (fun e => by cases e)⟩
  have := (EK.row_typed hc e).1
  omega
theorem CpG.store (h : CpG K w0 bn f cs ot u l q dc ds true false xc xs xa w) (hot : ot ≠ K.e) : CpG K w0 bn f cs ot u l q dc ds true true xc xs xa (w.setCell ⟨bn, f, none⟩ xa) := by
  have F := (Fr.refl (fun j => j = bn) w).setCell (p := ⟨bn, f, none⟩) (fun _ => rfl) xa
  refine ⟨h.fr.trans F (fun i _ e => e), obj_set h.o f _, (fun _ e => by cases e), (fun _ e => by cases e), fun _ => EK.row_fr (h.a rfl) F (fun k hk e => EK.row_ne (h.a rfl) h.o hot (e ▸ hk)), fun _ => rfl⟩
/-- x c: the part ahead, x a: with the part behind; stored. -/
structure CuG (K : EK P α) (w0 : World) (bn f : Nat) (cs : Array Value) (ot : TypeId) (l : List α) (k : Nat) (dc da de : Bool) (xc xa : Value) (w : World) : Prop where
  fr : Fr (fun j => j = bn) w0 w
  o : w.heap[bn]? = some (.cells (if de = true then cs.setIfInBounds f xa else cs) ot (0, 0))
  c : dc = true → da = false → K.row w w0.heap.size xc (l.take k)
  a : da = true → K.row w w0.heap.size xa (l.take k ++ l.drop (k + 1))
  e : de = true → da = true
variable {k : Nat}
theorem CuG.start (ho : w0.heap[bn]? = some (.cells cs ot (0, 0))) (xc xa : Value) : CuG K w0 bn f cs ot l k false false false xc xa w0.drew :=
  ⟨(Fr.refl _ _).drew, ho, (fun e => by cases e), (fun e => by cases e), (fun e => by cases e)⟩
theorem CuG.orow (h : CuG K w0 bn f cs ot l k dc da de xc xa w) (hr : K.row w0 0 u l) (hb : u.ownBlock ≠ some bn) : K.row w 0 u l :=
  EK.row_fr hr h.fr (fun _ hk e => hb (e ▸ hk))
theorem CuG.copy (h : CuG K w0 bn f cs ot l k dc false de xc xa w) (hr : K.row w0 0 u l) (hb : u.ownBlock ≠ some bn) (hk : k < l.length) (hl : l.length ≤ 1048576) (ty : TypeId) :
    ∃ v2 w2, (Builtin.append_ #[K.t, K.t] ty #[.slice none 0 0, partV K.sz u 0 k]).run P w = .ok v2 w2 ∧ CuG K w0 bn f cs ot l k true false de v2 xa w2 := by
  have hp := (EK.part (h.orow hr hb) (Nat.zero_le k) (by omega) (some (.int .i64 ((0 : Nat) : Int))) (some (.int .i64 (k : Int))) (.inr rfl) (.inr rfl)).2
  rw [List.drop_zero, Nat.sub_zero] at hp
  obtain ⟨v2, w2, hrun, hrow, hf, hv⟩ := EK.app (K := K) (EK.row_nil w w0.heap.size) hp (by simp; omega) h.fr.size ty
  refine ⟨v2, w2, hrun, h.fr.trans hf (fun i _ e => by cases e), hf.obj h.o (fun e => by cases e), fun _ _ => ?_, (fun e => by cases e), h.e⟩
  rwa [List.nil_append] at hrow
theorem CuG.app (h : CuG K w0 bn f cs ot l k true false de xc xa w) (hr : K.row w0 0 u l) (hb : u.ownBlock ≠ some bn) (hot : ot ≠ K.e) (hk : k < l.length) (hl : l.length ≤ 1048576) (ty : TypeId) :
    ∃ v3 w2, (Builtin.append_ #[K.t, K.t] ty #[xc, partV K.sz u (k + 1) l.length]).run P w = .ok v3 w2 ∧ CuG K w0 bn f cs ot l k true true false xc v3 w2 := by
  have hc := h.c rfl rfl
  have hde : de = false := by
    rcases de with _ | _
    · rfl
    · exact absurd (h.e rfl) (by decide)
  subst hde
  have hp := (EK.part (h.orow hr hb) (show k + 1 ≤ l.length by omega) (Nat.le_refl _) (some (.int .i64 ((k + 1 : Nat) : Int))) none (.inr rfl) (.inl ⟨rfl, rfl⟩)).2
  rw [List.take_of_length_le (by rw [List.length_drop]; omega)] at hp
  obtain ⟨v3, w2, hrun, hrow, hf, hv⟩ := EK.app hc hp (by simp; omega) h.fr.size ty
  refine ⟨v3, w2, hrun, h.fr.trans hf (fun i hi e => ?_), hf.obj h.o (EK.row_ne hc h.o hot), (fun _ e => by cases e), fun _ => hrow, (fun e => by cases e)⟩
  have := (EK.row_typed hc e).1
  omega
theorem CuG.store (h : CuG K w0 bn f cs ot l k dc true false xc xa w) (hot : ot ≠ K.e) : CuG K w0 bn f cs ot l k dc true true xc xa (w.setCell ⟨bn, f, none⟩ xa) := by
  have F := (Fr.refl (fun j => j = bn) w).setCell (p := ⟨bn, f, none⟩) (fun _ => rfl) xa
  exact ⟨h.fr.trans F (fun i _ e => e), obj_set h.o f _, (fun _ e => by cases e), fun _ => EK.row_fr (h.a rfl) F (fun k hk e => EK.row_ne (h.a rfl) h.o hot (e ▸ hk)), fun _ => rfl⟩
end
end Go.Proofs.Ythcnoamgkkbkcaa
