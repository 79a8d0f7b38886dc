/- Chapter 07, timers: Set, Stop. -/
import Derived.Test.YthcnoamgkkbkcaaTiT
namespace Go.Proofs.Ythcnoamgkkbkcaa
open Go.RowKit

theorem tset_nil (id at_ : Int) (w : World) : Calls Try.prog 47 #[.pointer none, .int .i64 id, .int .i64 at_] w fun e w' => e = .returned (.int .i64 1) ∧ w = w' := by
  go_enter Try.func47, Try.ntmps47
  go_wp2
  go_ret
  exact ⟨rfl, rfl⟩
set_option maxRecDepth 100000 in
theorem tset_bad {t : Nat} (id at_ : Int) (w : World) (h : badT id at_) : Calls Try.prog 47 #[.pointer (some ⟨t, 0, none⟩), .int .i64 id, .int .i64 at_] w fun e w' => e = .returned (.int .i64 1) ∧ w = w' := by
  have HH := hide h
  clear h
  by_cases h0 : id < 0
  · go_enter Try.func47, Try.ntmps47
    go_wp2
    go_ret
    exact ⟨rfl, rfl⟩
  by_cases h1 : at_ < 0
  · go_enter Try.func47, Try.ntmps47
    go_wp2
    go_ret
    exact ⟨rfl, rfl⟩
  by_cases h2 : 1099511627776 < at_
  · go_enter Try.func47, Try.ntmps47
    go_wp2
    go_ret
    exact ⟨rfl, rfl⟩
  exfalso
  have := HH.out
  unfold badT at this
  omega
/-- What a deed leaves behind: timers, their blocks. -/
def TAft (w : World) (B t p c : Nat) (v : Value) (x : List Tm) (w' : World) : Prop :=
  ∃ v', TX w' B t p c v' x ∧ (v'.ownBlock = v.ownBlock ∨ ∃ k, v'.ownBlock = some k ∧ w.heap.size ≤ k) ∧ Fr (fun k => v.ownBlock = some k ∨ k = p ∨ k = c) w w'
theorem TX.aft {w : World} {B t p c : Nat} {v : Value} {x : List Tm} (h : TX w B t p c v x) : TAft w B t p c v x w := ⟨v, h, .inl rfl, Fr.refl _ _⟩
theorem TAft.below {w w' w'' : World} {B t p c : Nat} {v : Value} {x : List Tm} (h : TAft w B t p c v x w') (hb : Below w'.heap.size w' w'') : TAft w B t p c v x w'' := by
  obtain ⟨v', h1, h2, h3⟩ := h
  exact ⟨v', h1.below hb, h2, h3.trans (Fr.of_below hb) (fun _ _ e => e)⟩
theorem AtOk.find {l : List Tm} {f : Int → Option Int} (h : AtOk l f) {id v : Int} (e : f id = some v) : ∃ k : Nat, k < l.length ∧ (tat l k).id = id ∧ v = (k : Int) := (h id v).1 e
theorem AtOk.none {l : List Tm} {f : Int → Option Int} (h : AtOk l f) {id : Int} (e : f id = none) : ∀ y ∈ l, y.id ≠ id := fun y hy e2 => by
  obtain ⟨k, hk, e3⟩ := List.getElem_of_mem hy
  have := (h id k).2 ⟨k, hk, by rw [tat_eq hk, e3]; exact e2, rfl⟩
  rw [e] at this
  cases this
theorem AtOk.nodup {l : List Tm} {f : Int → Option Int} (h : AtOk l f) : (l.map (·.id)).Nodup := by
  rw [List.nodup_iff_pairwise_ne, List.pairwise_map, List.pairwise_iff_getElem]
  intro i j hi hj hij e
  have := h.one hi hj (by rw [tat_eq hi, tat_eq hj]; exact e)
  omega
theorem AtOk.reset {l : List Tm} {f : Int → Option Int} (h : AtOk l f) {i : Nat} (hi : i < l.length) (y : Tm) (hy : y.id = (tat l i).id) : AtOk (l.set i y) f := fun id v => by
  rw [h id v, List.length_set]
  constructor
  · rintro ⟨k, hk, e, rfl⟩
    refine ⟨k, hk, ?_, rfl⟩
    rw [tat_set hi]
    split
    · rename_i e2
      rw [hy, ← e2]
      exact e
    · exact e
  · rintro ⟨k, hk, e, rfl⟩
    refine ⟨k, hk, ?_, rfl⟩
    rw [tat_set hi] at e
    split at e
    · rename_i e2
      rw [e2, ← hy]
      exact e
    · exact e
theorem perm_ids {l x : List Tm} (h : l.Perm x) : (l.map (·.id)).Nodup → (x.map (·.id)).Nodup := fun hn => (h.map _).nodup_iff.1 hn
theorem set_perm_erase : ∀ (l : List Tm) (i : Nat) (y : Tm), i < l.length → (l.set i y).Perm (y :: l.eraseIdx i)
  | [], _, _, h => by simp at h
  | a :: l, 0, y, _ => by simp
  | a :: l, i + 1, y, h => by
    rw [List.set_cons_succ, List.eraseIdx_cons_succ]
    exact ((set_perm_erase l i y (by simpa using h)).cons a).trans (List.Perm.swap y a _)
/-- One has another moment. -/
theorem reset_perm {l x : List Tm} (hp : l.Perm x) (hn : (l.map (·.id)).Nodup) {i : Nat} (hi : i < l.length) (y : Tm) (hy : y.id = (tat l i).id) : (l.set i y).Perm (tIns (tStop x y.id) y) := by
  have h1 : (l.set i y).Perm (y :: l.eraseIdx i) := set_perm_erase l i y hi
  have h2 : (l[i] :: l.eraseIdx i).Perm l := by
    have := set_perm_erase l i l[i] hi
    rw [List.set_getElem_self] at this
    exact this.symm
  have h3 : (l[i] :: tStop x l[i].id).Perm x := tStop_some (perm_ids hp hn) (hp.mem_iff.1 (List.getElem_mem hi))
  rw [tat_eq hi] at hy
  have h4 : (l.eraseIdx i).Perm (tStop x y.id) := by
    rw [hy]
    exact (List.perm_cons _).1 ((h2.trans hp).trans h3.symm)
  exact (h1.trans (h4.cons y)).trans (tIns_perm _ _).symm
set_option maxHeartbeats 4000000 in
set_option maxRecDepth 100000 in
theorem tset_there {w : World} {B t p c : Nat} {v : Value} {x : List Tm} (h : TX w B t p c v x) (hx : TOk x) (id at_ : Int) (hb : ¬ badT id at_) (hin : ∃ y ∈ x, y.id = id) :
    Calls Try.prog 47 #[.pointer (some ⟨t, 0, none⟩), .int .i64 id, .int .i64 at_] w fun e w' => e = .returned (.int .i64 0) ∧ TAft w B t p c v (tIns (tStop x id) ⟨id, at_⟩) w' := by
  have hap := h.apart
  obtain ⟨h1, ⟨l, ⟨f, h2, hf⟩, h3, h4⟩, hB⟩ := h
  obtain ⟨y, hy, hyid⟩ := hin
  have hyl := h4.mem_iff.2 hy
  obtain ⟨i, hi, hyi⟩ := List.getElem_of_mem hyl
  have hid : (tat l i).id = id := by rw [tat_eq hi, hyi]; exact hyid
  have hfi : f id = some (i : Int) := (hf id i).2 ⟨i, hi, hid, rfl⟩
  obtain ⟨r, cap, rfl, hn, hc, -, hrl, hcell⟩ := EK.row_cells h2.2.1 hi
  simp only [maxLen] at hc
  have hlk := MK.run_look_ok (K := kA) h2.2.2 id
  rw [hfi] at hlk
  have hlk' : (Instr.lookup 142 (.map (some c)) (.int .i64 id) true).run Try.prog w = .ok (.tuple #[.int .i64 (i : Int), .bool true]) w := hlk
  obtain ⟨n, hnn⟩ : ∃ n, n = l.length := ⟨_, rfl⟩
  have hll : l.length ≤ 64 := by rw [h4.length_eq]; exact hx.few
  rw [← hnn] at h2 hn hi hap
  have hne := h2.vne (q := r) rfl
  obtain ⟨W1, hW1⟩ : ∃ W1, W1 = w.setCell ⟨r, i * 2 + 1, none⟩ (.int .i64 at_) := ⟨_, rfl⟩
  have hfr : Fr (fun k => k = r) w W1 := by rw [hW1]; exact (Fr.refl (fun k => k = r) w).setCell (p := ⟨r, i * 2 + 1, none⟩) (fun _ => rfl) _
  have hrow : kT.row W1 B (.slice (some ⟨r, 0, none⟩) n cap) (l.set i ⟨id, at_⟩) := by
    rw [hW1]
    exact EK.row_set h2.2.1 (k := i) (j := 1) (by omega) (by decide) ⟨id, at_⟩ (.int .i64 at_) (by
      have : id = l[i].id := by rw [← hid, tat_eq (by omega)]
      simp [kT, this])
  have hpv : PA W1 B p c (.slice (some ⟨r, 0, none⟩) n cap) (l.set i ⟨id, at_⟩) := ⟨f, ⟨hfr.obj h2.1 (fun e => hne.1 e.symm), hrow, MK.mp_fr h2.2.2 hfr (fun e => hne.2 e.symm)⟩, hf.reset (by omega) _ hid.symm⟩
  have hdp : DPre (l.set i ⟨id, at_⟩) l.length i i := h3.fix (by omega) (Nat.le_refl _) _
  have HFX := hide (hfix_any hpv (by rw [List.length_set]; omega) i (by rw [List.length_set]; omega) (by rw [List.length_set]; exact hdp))
  have h1' := hfr.obj h1 (fun e => by
    have := (hap.2.2.2 r rfl).1
    exact this e.symm)
  have HE := hide (show ∀ (w' : World) (l' : List Tm), HpI l' (l.set i ⟨id, at_⟩).length → Sam (l.set i ⟨id, at_⟩).length (l.set i ⟨id, at_⟩) l' → PA w' B p c (.slice (some ⟨r, 0, none⟩) n cap) l' → Fr (fun k => (Value.slice (some ⟨r, 0, none⟩) n cap).ownBlock = some k ∨ k = c) W1 w' → TAft w B t p c (.slice (some ⟨r, 0, none⟩) n cap) (tIns (tStop x id) ⟨id, at_⟩) w' from fun w' l' a1 a2 a3 a4 => by
    refine ⟨_, ⟨a4.obj h1' (fun e => ?_), ⟨l', a3, by rw [a2.2.1]; exact a1, a2.1.trans (reset_perm h4 hf.nodup (by omega) ⟨id, at_⟩ hid.symm)⟩, hB⟩, .inl rfl, (hfr.mono (fun k _ e => .inl (by rw [e]; rfl))).trans a4 (fun k _ e => e.elim .inl (fun e => .inr (.inr e)))⟩
    rcases e with e | e
    · have e' : r = t := by cases e; rfl
      exact (hap.2.2.2 r rfl).1 e'
    · exact hap.2.1 e)
  have z0 := obj_cell h1 0
  have z1 := obj_cell h2.1 0
  have z2 := obj_cell h2.1 1
  have y0 := obj_cell h1' 0
  simp only [List.getElem?_toArray, List.getElem?_cons_zero, List.getElem?_cons_succ] at z0 z1 z2 y0
  have q1 : w.cell? ⟨r, i * 2 + 1, none⟩ = some (.int .i64 (tat l i).at_) := by rw [tat_eq (by omega)]; exact hcell 1 (by decide)
  have f1 : w.frozen? ⟨r, i * 2 + 1, none⟩ = false := by
    have := EK.row_frozen h2.2.1 (i * 2 + 1)
    exact this
  have hin : (i : Int) < (n : Int) := by omega
  unfold badT at hb
  have b0 : ¬ id < 0 := by omega
  have b1 : ¬ at_ < 0 := by omega
  have b2 : ¬ 1099511627776 < at_ := by omega
  clear h1 h2 hf h3 h4 hx hap hy hyl hyi hyid hid hfi hcell hlk hnn hll hne hfr hrow hpv hdp h1' hb hB hi
  go_enter Try.func47, Try.ntmps47
  go_wp2_with fail
  rw [← hW1]
  clear hW1 z0 z1 z2 q1 f1 hlk'
  refine HFX.out.mono ?_
  rintro e w2 ⟨rfl, l', a1, a2, a3, a4⟩
  have HFIN := hide (HE.out w2 l' a1 a2 a3 a4)
  clear a1 a2 a3 a4
  go_wp2
  go_ret
  exact ⟨rfl, HFIN.out⟩
theorem hin_none {x : List Tm} {id : Int} (h : ¬ ∃ y ∈ x, y.id = id) : ∀ y ∈ x, y.id ≠ id := fun y hy e => h ⟨y, hy, e⟩
set_option maxHeartbeats 4000000 in
set_option maxRecDepth 100000 in
theorem tset_new {w : World} {B t p c : Nat} {v : Value} {x : List Tm} (h : TX w B t p c v x) (id at_ : Int) (hb : ¬ badT id at_) (hin : ∀ y ∈ x, y.id ≠ id) :
    Calls Try.prog 47 #[.pointer (some ⟨t, 0, none⟩), .int .i64 id, .int .i64 at_] w fun e w' => if 64 ≤ x.length then e = .returned (.int .i64 5) ∧ w = w' else e = .returned (.int .i64 0) ∧ TAft w B t p c v (tIns x ⟨id, at_⟩) w' := by
  have hap := h.apart
  have htl := h.lt
  obtain ⟨h1, ⟨l, ⟨f, h2, hf⟩, h3, h4⟩, hB⟩ := h
  have hfi : f id = none := by
    rcases e : f id with _ | v'
    · rfl
    · obtain ⟨k, hk, e2, -⟩ := hf.find e
      exact absurd e2 (hin _ (h4.mem_iff.1 (tat_mem hk)))
  have hlk := MK.run_look_ok (K := kA) h2.2.2 id
  rw [hfi] at hlk
  have hlk' : (Instr.lookup 142 (.map (some c)) (.int .i64 id) true).run Try.prog w = .ok (.tuple #[.int .i64 0, .bool false]) w := hlk
  obtain ⟨A, cc, hAv⟩ := EK.row_slice h2.2.1
  subst hAv
  have z0 := obj_cell h1 0
  have z1 := obj_cell h2.1 0
  have z2 := obj_cell h2.1 1
  simp only [List.getElem?_toArray, List.getElem?_cons_zero, List.getElem?_cons_succ] at z0 z1 z2
  have hll := h4.length_eq
  unfold badT at hb
  have b0 : ¬ id < 0 := by omega
  have b1 : ¬ at_ < 0 := by omega
  have b2 : ¬ 1099511627776 < at_ := by omega
  by_cases hful : 64 ≤ x.length
  · rw [hll] at z1
    have hfi2 : (64 : Int) ≤ (x.length : Int) := by omega
    simp only [if_pos hful]
    clear h1 h2 hf h3 h4 hap hfi hlk hb hB hin htl hful hll
    go_enter Try.func47, Try.ntmps47
    go_wp2
    go_ret
    exact ⟨rfl, rfl⟩
  · simp only [if_neg hful]
    have HP := hide (hpush_any ⟨f, h2, hf⟩ h3 ⟨id, at_⟩ (fun y hy => hin y (h4.mem_iff.1 hy)) (by omega) (show B ≤ w.heap.size by omega))
    have HE := hide (show ∀ (w' : World) (v' : Value) (l' : List Tm), PA w' B p c v' l' → HpI l' l'.length → l'.Perm (l ++ [⟨id, at_⟩]) → (v'.ownBlock = (Value.slice A l.length cc).ownBlock ∨ ∃ k, v'.ownBlock = some k ∧ w.heap.size ≤ k) → Fr (fun k => (Value.slice A l.length cc).ownBlock = some k ∨ k = p ∨ k = c) w w' → TAft w B t p c (.slice A l.length cc) (tIns x ⟨id, at_⟩) w' from fun w' v' l' a1 a2 a3 a4 a5 => by
      refine ⟨v', ⟨a5.obj h1 (fun e => ?_), ⟨l', a1, a2, (a3.trans (((List.perm_append_comm).trans (h4.cons _)))).trans (tIns_perm _ _).symm⟩, hB⟩, a4, a5⟩
      rcases e with e | e | e
      · exact (hap.2.2.2 t e).1 rfl
      · exact hap.1 e
      · exact hap.2.1 e)
    rw [hll] at z1
    have hfi2 : ¬ (64 : Int) ≤ (x.length : Int) := by omega
    clear h1 h2 hf h3 h4 hap hfi hlk hb hB hin htl hful hll
    go_enter Try.func47, Try.ntmps47
    go_wp2_with fail
    refine HP.out.mono ?_
    rintro e w2 ⟨rfl, ⟨v', l', a1, a2, a3, a4⟩, a5⟩
    have HFIN := hide (HE.out w2 v' l' a1 a2 a3 a4 a5)
    clear a1 a2 a3 a4 a5
    go_wp2
    go_ret
    exact ⟨rfl, HFIN.out⟩
/-- Set. -/
theorem tset_any {w : World} {B t p c : Nat} {v : Value} {x : List Tm} (h : TX w B t p c v x) (hx : TOk x) (id at_ : Int) :
    Calls Try.prog 47 #[.pointer (some ⟨t, 0, none⟩), .int .i64 id, .int .i64 at_] w fun e w' => e = .returned (.int .i64 (tSet x id at_).2) ∧ TAft w B t p c v (tSet x id at_).1 w' := by
  unfold tSet
  by_cases hb : badT id at_
  · rw [if_pos hb]
    refine (tset_bad id at_ w hb).mono ?_
    rintro e w' ⟨rfl, rfl⟩
    exact ⟨rfl, h.aft⟩
  · rw [if_neg hb]
    by_cases hin : ∃ y ∈ x, y.id = id
    · have hlen : (tStop x id).length < 64 := by
        obtain ⟨y, hy, e⟩ := hin
        have := (tStop_some hx.ids hy).length_eq
        rw [e, List.length_cons] at this
        have := hx.few
        omega
      rw [if_neg (by omega)]
      exact tset_there h hx id at_ hb hin
    · rw [tStop_none (hin_none hin)]
      refine (tset_new h id at_ hb (hin_none hin)).mono fun e w' hh => ?_
      by_cases hf : 64 ≤ x.length
      · rw [if_pos hf] at hh ⊢
        obtain ⟨rfl, rfl⟩ := hh
        exact ⟨rfl, h.aft⟩
      · rw [if_neg hf] at hh ⊢
        exact hh
theorem tstop_nil (id : Int) (w : World) : Calls Try.prog 51 #[.pointer none, .int .i64 id] w fun e w' => e = .returned (.bool false) ∧ w = w' := by
  go_enter Try.func51, Try.ntmps51
  go_wp2
  go_ret
  exact ⟨rfl, rfl⟩
theorem lft_perm {l l' x : List Tm} {t : Tm} (hp : (l' ++ [t]).Perm l) (hl : l.Perm x) (hn : (x.map (·.id)).Nodup) : l'.Perm (tStop x t.id) := by
  have h1 : (t :: l').Perm x := ((List.perm_append_comm (l₁ := [t]) (l₂ := l')).trans hp).trans hl
  have h2 := tStop_some hn (h1.mem_iff.1 (List.mem_cons_self (a := t) (l := l')))
  exact (List.perm_cons t).1 (h1.trans h2.symm)
theorem Lft.aft {w w' : World} {B t p c i : Nat} {v : Value} {x l : List Tm} (h : TX w B t p c v x) (hl : l.Perm x) (hn : (x.map (·.id)).Nodup) (hf : Lft w B p c v l i w') : TAft w B t p c v (tStop x (tat l i).id) w' := by
  have hap := h.apart
  obtain ⟨⟨v', l', a1, a2, a3, a4⟩, a5⟩ := hf
  refine ⟨v', ⟨a5.obj h.1 (fun e => ?_), ⟨l', a1, a2, lft_perm a3 hl hn⟩, h.2.2⟩, .inl a4, a5⟩
  rcases e with e | e | e
  · exact (hap.2.2.2 t e).1 rfl
  · exact hap.1 e
  · exact hap.2.1 e
set_option maxHeartbeats 4000000 in
set_option maxRecDepth 100000 in
/-- Stop. -/
theorem tstop_any {w : World} {B t p c : Nat} {v : Value} {x : List Tm} (h : TX w B t p c v x) (hx : TOk x) (id : Int) :
    Calls Try.prog 51 #[.pointer (some ⟨t, 0, none⟩), .int .i64 id] w fun e w' => e = .returned (.bool (x.any fun y => y.id == id)) ∧ TAft w B t p c v (tStop x id) w' := by
  have HH := hide h
  obtain ⟨h1, ⟨l, ⟨f, h2, hf⟩, h3, h4⟩, hB⟩ := h
  have hlk := MK.run_look_ok (K := kA) h2.2.2 id
  have z0 := obj_cell h1 0
  have z2 := obj_cell h2.1 1
  simp only [List.getElem?_toArray, List.getElem?_cons_zero, List.getElem?_cons_succ] at z0 z2
  rcases e : f id with _ | iv
  · rw [e] at hlk
    have hlk' : (Instr.lookup 142 (.map (some c)) (.int .i64 id) true).run Try.prog w = .ok (.tuple #[.int .i64 0, .bool false]) w := hlk
    have hno : ∀ y ∈ x, y.id ≠ id := fun y hy => hf.none e y (h4.mem_iff.2 hy)
    have HA := hide (show (x.any fun y => y.id == id) = false ∧ TAft w B t p c v (tStop x id) w from ⟨by
      rw [List.any_eq_false]
      intro y hy
      simpa using hno y hy, by rw [tStop_none hno]; exact HH.out.aft⟩)
    clear h1 h2 hf h3 h4 hlk e hno hB
    go_enter Try.func51, Try.ntmps51
    go_wp2
    go_ret
    rw [HA.out.1]
    exact ⟨rfl, HA.out.2⟩
  · rw [e] at hlk
    obtain ⟨k, hk, hid, rfl⟩ := hf.find e
    have hlk' : (Instr.lookup 142 (.map (some c)) (.int .i64 id) true).run Try.prog w = .ok (.tuple #[.int .i64 (k : Int), .bool true]) w := hlk
    have HRM := hide (hremove_any ⟨f, h2, hf⟩ h3 (by rw [h4.length_eq]; have := hx.few; omega) k hk)
    have HA := hide (show (x.any fun y => y.id == id) = true ∧ ∀ w', Lft w B p c v l k w' → TAft w B t p c v (tStop x id) w' from ⟨by
      rw [List.any_eq_true]
      exact ⟨tat l k, h4.mem_iff.1 (tat_mem hk), by simpa using hid⟩, fun w' hl => by
      have := Lft.aft HH.out h4 hx.ids hl
      rwa [hid] at this⟩)
    clear h1 h2 hf h3 h4 hlk e hid hB hk
    go_enter Try.func51, Try.ntmps51
    go_wp2_with fail
    refine HRM.out.mono ?_
    rintro e w2 ⟨rfl, hl⟩
    have HFIN := hide (HA.out.2 w2 hl)
    clear hl
    go_wp2
    go_ret
    rw [HA.out.1]
    exact ⟨rfl, HFIN.out⟩
end Go.Proofs.Ythcnoamgkkbkcaa
