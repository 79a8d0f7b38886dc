/- Chapter 15, replies: what stays in order; Ids, Put. -/
import Derived.Test.YthcnoamgkkbkcaaRp2
namespace Go.Proofs.Ythcnoamgkkbkcaa
open Go.RowKit

/-- What the calls own. -/
def Ow (g cm : Nat) (f : Int → Option Value) (j : Nat) : Prop := j = g ∨ j = cm ∨ ∃ c v, f c = some v ∧ v.ownBlock = some j
/-- What is left behind. -/
def RA (w : World) (B g cm : Nat) (f : Int → Option Value) (S' : RS) (w' : World) : Prop :=
  ∃ f', RV w' B g cm S' f' ∧ ROk S' ∧ Fr (Ow g cm f) w w' ∧ ∀ j, Ow g cm f' j → Ow g cm f j ∨ w.heap.size ≤ j
section
variable {w w' : World} {B g cm : Nat} {S : RS} {f : Int → Option Value}
theorem RV.self (h : RV w B g cm S f) (hk : ROk S) (hb : Below w.heap.size w w') : RA w B g cm f S w' := ⟨f, h.below hb, hk, Fr.of_below hb, fun _ e => .inl e⟩
theorem vOf_own {c : Int} {j : Nat} (e : (vOf f c).ownBlock = some j) : ∃ v, f c = some v ∧ v.ownBlock = some j := by
  unfold vOf at e
  rcases e2 : f c with _ | v
  · rw [e2] at e
    cases e
  · rw [e2] at e
    exact ⟨v, rfl, e⟩
/-- A client's row was turned in its block. -/
theorem RV.inplace (h : RV w B g cm S f) {c : Int} {v : Value} (hc : f c = some v) {l : List En} (hf : Fr (fun j => v.ownBlock = some j) w w') (hv : kE.sg w' B v l) (hl : l ≠ []) :
    RV w' B g cm ⟨S.room, setL S.L c l⟩ f ∧ Fr (Ow g cm f) w w' := by
  have hne : ∀ j, v.ownBlock = some j → B ≤ j ∧ ∃ cs, w.heap[j]? = some (.cells cs 116 (0, 0)) := fun j e => by
    obtain ⟨h1, -, h3⟩ := EK.sg_typed (h.yes c v hc).2 e
    exact ⟨h1, h3⟩
  have hgf : ¬ v.ownBlock = some g := fun e => by
    obtain ⟨-, cs, h3⟩ := hne g e
    rw [h.o] at h3
    simp only [Option.some.injEq, Obj.cells.injEq] at h3
    exact absurd h3.2.1 (by decide)
  refine ⟨⟨hf.obj h.o hgf, MK.mp_fr h.mp hf (h.mapFar hc), fun d hd => ?_, fun d u hd => ?_, h.sep, h.bg⟩, hf.mono (fun j _ e => .inr (.inr ⟨c, v, hc, e⟩))⟩
  · have hdc : d ≠ c := fun e => by rw [e, hc] at hd; cases hd
    show setL S.L c l d = []
    rw [setL_other _ _ hdc]
    exact h.no d hd
  · show setL S.L c l d ≠ [] ∧ kE.sg w' B u (setL S.L c l d)
    by_cases hdc : d = c
    · rw [hdc, hc] at hd
      cases hd
      rw [hdc, setL_same]
      exact ⟨hl, hv⟩
    · rw [setL_other _ _ hdc]
      obtain ⟨h1, h2⟩ := h.yes d u hd
      exact ⟨h1, EK.sg_fr h2 hf (fun j e e2 => h.sep d c u v hd hc hdc (by rw [e, e2]))⟩
theorem RV.turn2 (h : RV w B g cm S f) (c : Int) {l : List En} {v' : Value} (hf : Fr (fun j => (vOf f c).ownBlock = some j) w w') (hv : kE.sg w' B v' l) (hl : l ≠ []) (ho : v'.ownBlock = (vOf f c).ownBlock ∨ ∃ k, v'.ownBlock = some k ∧ w.heap.size ≤ k) {w2 : World} (hmp : kR.mp w2 cm (upm f c (some v'))) (hf2 : Fr (fun j => j = cm) w' w2) (hk : ROk ⟨S.room, setL S.L c l⟩) :
    RA w B g cm f ⟨S.room, setL S.L c l⟩ w2 := by
  refine ⟨_, (h.turn c hf hv hl ho hmp hf2).1, hk, (hf.mono (fun j _ e => ?_)).trans hf2 (fun j hj e => .inr (.inl e)), fun j e => ?_⟩
  · obtain ⟨v, h1, h2⟩ := vOf_own e
    exact .inr (.inr ⟨c, v, h1, h2⟩)
  · rcases e with e | e | ⟨d, u, e, e2⟩
    · exact .inl (.inl e)
    · exact .inl (.inr (.inl e))
    · by_cases hdc : d = c
      · rw [hdc, upm_same] at e
        cases e
        rcases ho with ho | ⟨k, ho, hk⟩
        · rw [ho] at e2
          obtain ⟨v, h1, h2⟩ := vOf_own e2
          exact .inl (.inr (.inr ⟨c, v, h1, h2⟩))
        · rw [ho] at e2
          cases e2
          exact .inr hk
      · rw [upm_other _ _ hdc] at e
        exact .inl (.inr (.inr ⟨d, u, e, e2⟩))
end
/-! Plainly: what stays. -/
theorem rs_set {l : List En} (h : Rs l) {i : Nat} {e e' : En} (hi : l[i]? = some e) (hid : e'.id = e.id) : Rs (l.set i e') := by
  obtain ⟨hl, he⟩ := List.getElem?_eq_some_iff.1 hi
  refine List.pairwise_iff_getElem.2 fun a b ha hb hab => ?_
  rw [List.length_set] at ha hb
  have := List.pairwise_iff_getElem.1 h a b ha hb hab
  rw [List.getElem_set, List.getElem_set]
  by_cases h1 : i = a
  · subst h1
    rw [if_pos rfl, if_neg (by omega), hid, ← he]
    exact this
  · rw [if_neg h1]
    by_cases h2 : i = b
    · subst h2
      rw [if_pos rfl, hid, ← he]
      exact this
    · rw [if_neg h2]
      exact this
theorem ROk.upd {S : RS} (h : ROk S) {c : Int} {l : List En} (hc : 0 ≤ c ∧ c < 64) (h1 : Rs l) (h2 : (l.length : Int) ≤ S.room) (h3 : ∀ e ∈ l, 0 ≤ e.id ∧ e.id ≤ 2147483647) (h4 : ∀ e ∈ l, e.rep.size ≤ 4096) (h5 : ∀ e ∈ l, e.busy = true → e.rep = ByteArray.empty) : ROk ⟨S.room, setL S.L c l⟩ := by
  have key : ∀ {p : List En → Prop}, (∀ d, p (S.L d)) → p l → ∀ d, p (setL S.L c l d) := fun {p} a b d => by
    by_cases hd : d = c
    · rw [hd, setL_same]
      exact b
    · rw [setL_other _ _ hd]
      exact a d
  exact ⟨h.room, key h.srt h1, key (p := fun l => (l.length : Int) ≤ S.room) h.len h2, key (p := fun l => ∀ e ∈ l, 0 ≤ e.id ∧ e.id ≤ 2147483647) h.rng h3, key (p := fun l => ∀ e ∈ l, e.rep.size ≤ 4096) h.rep h4, key (p := fun l => ∀ e ∈ l, e.busy = true → e.rep = ByteArray.empty) h.bsy h5, fun d hd => by
    show setL S.L c l d = []
    rw [setL_other _ _ (fun e : d = c => hd (by rw [e]; exact hc))]
    exact h.out d hd⟩
theorem ROk.put {S : RS} (h : ROk S) {c id : Int} {s : ByteArray} (hc : 0 ≤ c ∧ c < 64) (hs : s.size ≤ 4096) {i : Nat} {e : En} (hi : (S.L c)[i]? = some e) (hid : e.id = id) : ROk ⟨S.room, setL S.L c ((S.L c).set i ⟨id, false, s⟩)⟩ := by
  obtain ⟨hl, he⟩ := List.getElem?_eq_some_iff.1 hi
  have hm : ∀ x ∈ (S.L c).set i ⟨id, false, s⟩, x ∈ S.L c ∨ x = ⟨id, false, s⟩ := fun x hx => List.mem_or_eq_of_mem_set hx
  have hem : e ∈ S.L c := he ▸ List.getElem_mem hl
  refine h.upd hc (rs_set (h.srt c) hi hid.symm) (by rw [List.length_set]; exact h.len c) (fun x hx => ?_) (fun x hx => ?_) (fun x hx hb => ?_)
  · rcases hm x hx with hx | rfl
    · exact h.rng c x hx
    · rw [← hid]
      exact h.rng c e hem
  · rcases hm x hx with hx | rfl
    · exact h.rep c x hx
    · exact hs
  · rcases hm x hx with hx | rfl
    · exact h.bsy c x hx hb
    · cases hb
theorem putIn_len (l : List En) (id : Int) : (putIn l id).length = l.length + 1 := by
  unfold putIn
  have := ahd_le l id
  rw [List.length_append, List.length_cons, List.length_take, List.length_drop]
  omega
theorem putIn_mem {l : List En} {id : Int} {x : En} (hx : x ∈ putIn l id) : x ∈ l ∨ x = ⟨id, true, ByteArray.empty⟩ := by
  unfold putIn at hx
  rcases List.mem_append.1 hx with h | h
  · exact .inl (List.mem_of_mem_take h)
  · rcases List.mem_cons.1 h with h | h
    · exact .inr h
    · exact .inl (List.mem_of_mem_drop h)
theorem putIn_rs {l : List En} (h : Rs l) {id : Int} (hn : ∀ e, l[ahd l id]? = some e → e.id ≠ id) : Rs (putIn l id) := by
  have hle := ahd_le l id
  unfold putIn Rs
  have hA : ∀ a ∈ l.take (ahd l id), a.id < id := fun a ha => by
    obtain ⟨j, hj, rfl⟩ := List.getElem_of_mem ha
    rw [List.length_take] at hj
    rw [List.getElem_take]
    exact ahd_lt h (by omega) (by omega)
  have hD : ∀ a ∈ l.drop (ahd l id), id < a.id := fun a ha => by
    obtain ⟨j, hj, rfl⟩ := List.getElem_of_mem ha
    rw [List.length_drop] at hj
    rw [List.getElem_drop]
    have h0 := ahd_ge h (id := id) (j := ahd l id) (by omega) (Nat.le_refl _)
    have h1 := hn l[ahd l id] (List.getElem?_eq_getElem (by omega))
    have h2 := h.le (i := ahd l id) (j := ahd l id + j) (by omega) (by omega)
    omega
  refine List.pairwise_append.2 ⟨h.sublist (List.take_sublist _ _), List.pairwise_cons.2 ⟨hD, h.sublist (List.drop_sublist _ _)⟩, fun a ha b hb => ?_⟩
  rcases List.mem_cons.1 hb with rfl | hb
  · exact hA a ha
  · have := hA a ha
    have := hD b hb
    omega
theorem lastOf_len {room : Int} {l : List En} (hr : 1 ≤ room) (h : (l.length : Int) ≤ room + 1) (h0 : l ≠ []) : ((lastOf room l).length : Int) ≤ room ∧ lastOf room l ≠ [] := by
  unfold lastOf
  have : 0 < l.length := List.length_pos_iff.2 h0
  refine ⟨by rw [List.length_drop]; omega, fun e => ?_⟩
  have := List.drop_eq_nil_iff.1 e
  omega
theorem ROk.take {S : RS} (h : ROk S) {c id : Int} (hc : mayR c id) (hn : ∀ e, (S.L c)[ahd (S.L c) id]? = some e → e.id ≠ id) : ROk ⟨S.room, setL S.L c (lastOf S.room (putIn (S.L c) id))⟩ ∧ lastOf S.room (putIn (S.L c) id) ≠ [] := by
  have h0 : putIn (S.L c) id ≠ [] := fun e => by
    have := putIn_len (S.L c) id
    rw [e] at this
    simp at this
  have hlen := h.len c
  have hl := lastOf_len (l := putIn (S.L c) id) h.room.1 (by rw [putIn_len]; omega) h0
  have hm : ∀ x ∈ lastOf S.room (putIn (S.L c) id), x ∈ S.L c ∨ x = ⟨id, true, ByteArray.empty⟩ := fun x hx => putIn_mem (List.mem_of_mem_drop hx)
  refine ⟨h.upd ⟨hc.1, hc.2.1⟩ ((putIn_rs (h.srt c) hn).sublist (List.drop_sublist _ _)) hl.1 (fun x hx => ?_) (fun x hx => ?_) (fun x hx hb => ?_), hl.2⟩
  · rcases hm x hx with hx | rfl
    · exact h.rng c x hx
    · exact ⟨hc.2.2.1, by have := hc.2.2.2; simp only; omega⟩
  · rcases hm x hx with hx | rfl
    · exact h.rep c x hx
    · exact Nat.zero_le _
  · rcases hm x hx with hx | rfl
    · exact h.bsy c x hx hb
    · rfl
/-! Ids, Put. -/
theorem idsR_nil (c : Int) (w : World) : Calls Try.prog 38 #[.pointer none, .int .i64 c] w fun e w' => e = .returned (.slice none 0 0) ∧ w = w' := by
  go_enter Try.func38, Try.ntmps38
  go_wp2
  go_ret
  exact ⟨rfl, rfl⟩
def IdS (w : World) (l : List En) (n : Nat) (wr : World) (ov iv : Value) : Prop :=
  ∃ k : Nat, iv = .int .i64 (k : Int) ∧ k ≤ n ∧ kI.row wr w.heap.size ov ((l.take k).map (·.id)) ∧ Below w.heap.size w wr
set_option maxHeartbeats 8000000 in
set_option maxRecDepth 100000 in
theorem idsR_any {w : World} {B g cm : Nat} {S : RS} {f : Int → Option Value} (h : RV w B g cm S f) (hk : ROk S) (c : Int) :
    Calls Try.prog 38 #[.pointer (some ⟨g, 0, none⟩), .int .i64 c] w fun e w' => ∃ ov, e = .returned ov ∧ kI.row w' w.heap.size ov (rIds S c) ∧ Below w.heap.size w w' := by
  have z1 := obj_cell h.o 1
  simp only [List.getElem?_toArray, List.getElem?_cons_zero, List.getElem?_cons_succ] at z1
  have hlk := h.look c
  have hlen := hk.len c
  have hroom := hk.room
  have hsg := h.sg c
  unfold rIds
  obtain ⟨l, hl⟩ : ∃ l, l = S.L c := ⟨_, rfl⟩
  rw [← hl] at hlen hsg ⊢
  obtain ⟨A, cap, e, hc1, hc2⟩ := EK.sg_slice hsg
  rw [e] at hlk hsg
  obtain ⟨n, hn⟩ : ∃ n, n = l.length := ⟨_, rfl⟩
  rw [← hn] at hlk hsg hc1 hlen
  have HN := hide (show n = l.length ∧ n ≤ 16 from ⟨hn, by omega⟩)
  have hni : (n : Int) ≤ 16 := by omega
  simp only [maxLen] at hc2
  have HV := hide hsg
  have HS := hide (show IdS w l n w (.slice none 0 0) (.int .i64 0) from ⟨0, rfl, Nat.zero_le _, EK.row_nil _ _, Below.refl _ _⟩)
  clear h hk hl hlen hroom hsg e hn
  go_enter Try.func38, Try.ntmps38
  go_wp2_with fail
  go_loopw [5, 17] (fun ov iv wr => IdS w l n wr ov iv) (fun _ iv _ => n - (intOf iv).toNat)
  case atStart => exact HS.out
  case round =>
    obtain ⟨k, rfl, hk, hro, hb⟩ := hrel
    have HB := hide hb
    rcases Nat.lt_or_ge k n with hkl | hkl
    · have hkl' : k < l.length := by have := HN.out.1; omega
      obtain ⟨b, o, c', e1, -, -, -, -, hcell⟩ := EK.sg_cells (EK.sg_below HV.out hb) hkl'
      rw [← HN.out.1] at e1
      injection e1 with e1a e1b e1c
      subst e1a e1c
      have q0 := hcell 0 (by decide)
      have q1 := hcell 1 (by decide)
      have q2 := hcell 2 (by decide)
      obtain ⟨x, hx⟩ : ∃ x, x = l[k] := ⟨_, rfl⟩
      rw [← hx] at q0 q1 q2
      simp only [kE, eC, List.getElem?_cons_zero, List.getElem?_cons_succ, Nat.add_zero] at q0 q1 q2
      obtain ⟨xid, xb, xr⟩ := x
      simp only at q0 q1 q2
      have hki : (k : Int) < (n : Int) := by omega
      have hal := (Below.refl wr.heap.size wr).alloc (Nat.le_refl _) (.cells #[.int .i64 xid, .bool xb, .string xr] 116)
      have hal2 := hal.alloc hal.size (.cells #[.int .i64 xid] 3)
      have oq := obj_new wr (.cells #[.int .i64 xid, .bool xb, .string xr] 116)
      have z0 := obj_cell oq 0
      simp only [List.getElem?_toArray, List.getElem?_cons_zero] at z0
      have hlk' : ((l.take k).map (·.id)).length ≤ 65536 := by rw [List.length_map, List.length_take]; have := HN.out; omega
      obtain ⟨v4, w4, happ, hrow4, hf4, hbl4⟩ := EK.app (EK.row_below hro hal2) (EK.rd_one (K := kI) xid (obj_new (wr.alloc (.cells #[.int .i64 xid, .bool xb, .string xr] 116)) _)) (by simp only [List.length_singleton]; omega) (by have := hal2.size; have := hb.size; omega) 54
      have HAPP : Hid ((Builtin.append_ #[54, 54] 54 #[u5, .slice (some ⟨wr.heap.size + 1, 0, none⟩) 1 1]).run Try.prog ((wr.alloc (.cells #[.int .i64 xid, .bool xb, .string xr] 116)).alloc (.cells #[.int .i64 xid] 3)) = .ok v4 w4) := hide (by rw [World.size_alloc] at happ; exact happ)
      have HRES := hide (show IdS w l n w4 v4 (.int .i64 ((k : Int) + 1)) from ⟨k + 1, rfl, hkl, by
        rw [List.take_add_one, List.getElem?_eq_getElem hkl', List.map_append, ← hx]
        exact hrow4, (hb.trans (hal2.mono hb.size)).trans (hf4.below _ (by have := hal2.size; have := hb.size; omega) (fun q hq e => by
          have := (EK.row_typed hro e).1
          omega))⟩)
      clear hro hb hcell hx hal hal2 hrow4 hf4 hbl4 e1b hlk' happ oq hkl'
      go_wp2_with (refine wpList_append_run (v' := v4) (w' := w4) rfl (.tmp 21) (.tmp 24) 54 54 rfl rfl rfl ?_ ?_; exact HAPP.out)
      exact ⟨HRES.out, by simp only [intOf]; omega⟩
    · have hke : n = k := by omega
      subst hke
      have e1 : l.take n = l := List.take_of_length_le (by have := HN.out.1; omega)
      rw [e1] at hro
      have HRO := hide hro
      clear hro hb e1
      go_wp2
      go_ret
      exact ⟨_, rfl, HRO.out, HB.out⟩
end Go.Proofs.Ythcnoamgkkbkcaa
