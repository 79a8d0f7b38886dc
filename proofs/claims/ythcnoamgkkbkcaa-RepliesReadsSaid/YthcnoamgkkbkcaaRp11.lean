/- Chapter 15, replies: read (71), ahead of its walk: what one more call behind keeps; the state of the region that puts it behind. -/
import Derived.Test.YthcnoamgkkbkcaaRp10
namespace Go.Proofs.Ythcnoamgkkbkcaa
open Go.RowKit

theorem rText_size (σ : Option (List UInt8)) : (⟨(rText σ).1.toArray⟩ : ByteArray).size = (rText σ).1.length := rfl
/-- A call that may be is one that can be kept. -/
theorem oneR_good {σ : Option (List UInt8)} (h : (oneR σ).2.1 = true) : (0 ≤ (oneR σ).1.id ∧ (oneR σ).1.id ≤ 2147483647) ∧ (oneR σ).1.rep.size ≤ 4096 ∧ ((oneR σ).1.busy = true → (oneR σ).1.rep = ByteArray.empty) := by
  unfold oneR at h ⊢
  by_cases h1 : (rByte (rInt σ).2).1 = 1
  · rw [if_pos h1] at h ⊢
    have hm := of_decide_eq_true h
    obtain ⟨-, -, h3, h4⟩ := hm
    exact ⟨⟨h3, by show (rInt σ).1 ≤ 2147483647; omega⟩, Nat.zero_le _, fun _ => rfl⟩
  · by_cases h0 : (rByte (rInt σ).2).1 = 0
    · rw [if_neg h1, if_pos h0] at h ⊢
      obtain ⟨⟨-, -, h3, h4⟩, h5⟩ := of_decide_eq_true h
      exact ⟨⟨h3, by show (rInt σ).1 ≤ 2147483647; omega⟩, h5, fun e => by cases e⟩
    · rw [if_neg h1, if_neg h0] at h
      cases h
theorem rs_app {l : List En} (h : Rs l) {e : En} (he : ∀ x ∈ l, x.id < e.id) : Rs (l ++ [e]) :=
  List.pairwise_append.2 ⟨h, List.pairwise_singleton _ _, fun a ha b hb => by
    rw [List.mem_singleton.1 hb]
    exact he a ha⟩
theorem ROk.app {S : RS} (h : ROk S) {c : Int} (hc : 0 ≤ c ∧ c < 64) {e : En} (h1 : ∀ x ∈ S.L c, x.id < e.id) (h2 : ((S.L c).length : Int) < S.room) (h3 : 0 ≤ e.id ∧ e.id ≤ 2147483647) (h4 : e.rep.size ≤ 4096) (h5 : e.busy = true → e.rep = ByteArray.empty) :
    ROk ⟨S.room, setL S.L c (S.L c ++ [e])⟩ := by
  have key : ∀ {p : En → Prop}, (∀ x ∈ S.L c, p x) → p e → ∀ x ∈ S.L c ++ [e], p x := fun {p} a b x hx => by
    rcases List.mem_append.1 hx with hx | hx
    · exact a x hx
    · rw [List.mem_singleton.1 hx]
      exact b
  exact h.upd hc (rs_app (h.srt c) h1) (by rw [List.length_append, List.length_singleton]; omega) (key (p := fun x => 0 ≤ x.id ∧ x.id ≤ 2147483647) (h.rng c) h3) (key (p := fun x => x.rep.size ≤ 4096) (h.rep c) h4) (key (p := fun x => x.busy = true → x.rep = ByteArray.empty) (h.bsy c) h5)
/-- The region that puts a call behind its client's row: what is made (12), put behind (13), kept (14). -/
structure RdS (wq : World) (B g cm : Nat) (f : Int → Option Value) (S : RS) (c : Int) (e : En) (d2 d3 d4 : Bool) (x2 x3 : Value) (w' : World) : Prop where
  lo : d3 = false → d4 = false → Below wq.heap.size wq w'
  made : d2 = true → d3 = false → d4 = false → kE.rd w' x2 [e]
  put : d3 = true → d4 = false → Fr (fun j => (vOf f c).ownBlock = some j) wq w' ∧ kE.sg w' B x3 (S.L c ++ [e]) ∧ (x3.ownBlock = (vOf f c).ownBlock ∨ ∃ k, x3.ownBlock = some k ∧ wq.heap.size ≤ k)
  kept : d4 = true → RA wq B g cm f ⟨S.room, setL S.L c (S.L c ++ [e])⟩ w'
section
variable {wq w' : World} {B g cm : Nat} {f : Int → Option Value} {S : RS} {c : Int} {e : En} {d2 d3 : Bool} {x2 x3 : Value}
theorem RdS.start (x2 x3 : Value) : RdS wq B g cm f S c e false false false x2 x3 wq.drew :=
  ⟨fun _ _ => (Below.refl wq.heap.size wq).drew, (fun h => by cases h), (fun h => by cases h), (fun h => by cases h)⟩
/-- The calls' own block is read, before and behind the append. -/
theorem RdS.obj (h : RdS wq B g cm f S c e d2 d3 false x2 x3 w') (hv : RV wq B g cm S f) : w'.heap[g]? = some (.cells #[.int .i64 S.room, .map (some cm)] 108 (0, 0)) := by
  cases d3
  · exact obj_below hv.o (h.lo rfl rfl)
  · refine (h.put rfl rfl).1.obj hv.o (fun e1 => ?_)
    obtain ⟨-, -, cs, h3⟩ := EK.sg_typed (hv.sg c) e1
    rw [hv.o] at h3
    simp only [Option.some.injEq, Obj.cells.injEq] at h3
    exact absurd h3.2.1 (by decide)
/-- The append. -/
theorem RdS.app (h : RdS wq B g cm f S c e d2 false false x2 x3 w') (hv : RV wq B g cm S f) (hd : d2 = true) (hl : (S.L c).length ≤ 1048576) (ty : TypeId) :
    ∃ v' w2, (Builtin.append_ #[117, 117] ty #[vOf f c, x2]).run Try.prog w' = .ok v' w2 ∧ RdS wq B g cm f S c e d2 true false x2 v' w2 := by
  have hb := h.lo rfl rfl
  have hB := hv.bsz
  obtain ⟨v', w2, h1, h2, h3, h4⟩ := EK.sg_app (EK.sg_below (hv.sg c) hb) (h.made hd rfl rfl) hl (by have := hb.size; omega) ty
  refine ⟨v', w2, h1, (fun e => by cases e), (fun _ e => by cases e), fun _ _ => ⟨(Fr.of_below hb).trans h3 (fun i hi e => e), h2, ?_⟩, (fun e => by cases e)⟩
  rcases h4 with h4 | ⟨k, h4, hk⟩
  · exact .inl h4
  · exact .inr ⟨k, h4, by have := hb.size; omega⟩
/-- The map keeps it. -/
theorem RdS.keep (h : RdS wq B g cm f S c e d2 true false x2 x3 w') (hv : RV wq B g cm S f) (hk : ROk ⟨S.room, setL S.L c (S.L c ++ [e])⟩) :
    ∃ w2, (Instr.mapUpdate 106 (.map (some cm)) (.int .i64 c) x3).run Try.prog w' = .ok () w2 ∧ RdS wq B g cm f S c e d2 true true x2 x3 w2 := by
  obtain ⟨h1, h2, h3⟩ := h.put rfl rfl
  have hmp : kR.mp w' cm f := MK.mp_fr hv.mp h1 (fun e1 => by
    obtain ⟨v, e2, e3⟩ := vOf_own e1
    exact hv.mapFar e2 e3)
  obtain ⟨w2, r1, r2, r3⟩ := MK.run_put hmp c x3
  exact ⟨w2, r1, (fun _ e => by cases e), (fun _ _ e => by cases e), (fun _ e => by cases e), fun _ => hv.turn2 c h1 h2 (by simp) h3 r2 r3.1 hk⟩
end
end Go.Proofs.Ythcnoamgkkbkcaa
