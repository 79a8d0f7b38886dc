/- Chapter 07, timers: the reference: Set, Due. -/
import Derived.Test.YthbhpojbdpgajaaTiR
namespace Go.Proofs.Ythbhpojbdpgajaa
open Go.RowKit

theorem wpList_sliceN {P : Program} {w : World} {o : Oper} {a : Act} {Q : Exit → Act → World → Prop} {ops : Array Oper} {rest : List Oper} (hgd : o.guard = none) (ty : TypeId) (x : Operand) (lo hi : Option Operand) (ho : o.op = .slice ty x lo hi none) {v u : Value} {l' h' : Option Value} (hx : a.eval x = v) (hl : lo.map a.eval = l') (hh : hi.map a.eval = h')
    (hrun : (Instr.sliceAt ty v l' h' none).run P w = .ok u w) (h : wpList P ops Q rest (a.put o.dst u) w) : wpList P ops Q (o :: rest) a w :=
  wpList_plain hgd fun _ hK => wp_slice_n ty x lo hi ho hx hl hh hrun (hK _ _ h)
theorem tw_split {α : Type} {x : List α} {p : α → Bool} {k : Nat} (h1 : ∀ y ∈ x.take k, p y = true) (h2 : ∀ h : k < x.length, p x[k] = false) : x.takeWhile p = x.take k ∧ x.dropWhile p = x.drop k := by
  have e : x = x.take k ++ x.drop k := (List.take_append_drop k x).symm
  have h3 : (x.drop k).takeWhile p = [] ∧ (x.drop k).dropWhile p = x.drop k := by
    rcases Nat.lt_or_ge k x.length with h | h
    · rw [List.drop_eq_getElem_cons h, List.takeWhile_cons, List.dropWhile_cons, h2 h]
      exact ⟨rfl, rfl⟩
    · rw [List.drop_eq_nil_of_le h]
      exact ⟨rfl, rfl⟩
  constructor
  · conv => lhs; rw [e]
    rw [List.takeWhile_append_of_pos h1, h3.1, List.append_nil]
  · conv => lhs; rw [e]
    rw [List.dropWhile_append_of_pos h1, h3.2]
def RtS (w : World) (l : List Tm) (t : Tm) (n : Nat) (wr : World) (iv : Value) : Prop :=
  ∃ k : Nat, iv = .int .i64 (k : Int) ∧ k ≤ n ∧ (∀ y ∈ l.take k, tlt y t = true) ∧ Below w.heap.size w wr
/-- What the reference leaves: a row, its own block. -/
def RQ (w : World) (B : Nat) (u : Value) (l : List Tm) (v' : Value) (w' : World) : Prop :=
  kT.row w' B v' l ∧ (∀ k, v'.ownBlock = some k → u.ownBlock = some k ∨ w.heap.size ≤ k) ∧ Below w.heap.size w w'
set_option maxHeartbeats 8000000 in
set_option maxRecDepth 100000 in
theorem rset_any {w : World} {B : Nat} {u : Value} {l : List Tm} (hu : kT.row w B u l) (hB : B ≤ w.heap.size) (hl : l.length ≤ 65536) (id at_ : Int) :
    Calls Try.prog 13 #[u, .int .i64 id, .int .i64 at_] w fun e w' => ∃ v', e = .returned (.tuple #[v', .int .i64 (tSet l id at_).2]) ∧ RQ w B u (tSet l id at_).1 v' w' := by
  have HU := hide hu
  have HB := hide hB
  unfold tSet
  by_cases h0 : id < 0
  · rw [if_pos (.inl h0)]
    clear hu hB
    go_enter Try.func13, Try.ntmps13
    go_wp2_with fail
    go_ret2
    exact ⟨_, rfl, HU.out, fun k h => .inl h, Below.refl _ _⟩
  by_cases h1 : at_ < 0
  · rw [if_pos (.inr (.inl h1))]
    clear hu hB
    go_enter Try.func13, Try.ntmps13
    go_wp2_with fail
    go_ret2
    exact ⟨_, rfl, HU.out, fun k h => .inl h, Below.refl _ _⟩
  by_cases h2 : 1099511627776 < at_
  · rw [if_pos (.inr (.inr h2))]
    clear hu hB
    go_enter Try.func13, Try.ntmps13
    go_wp2_with fail
    go_ret2
    exact ⟨_, rfl, HU.out, fun k h => .inl h, Below.refl _ _⟩
  have hnb : ¬ badT id at_ := by unfold badT; omega
  rw [if_neg hnb]
  have HST := hide (rstop_any hu hl id)
  obtain ⟨R, hR⟩ : ∃ R, R = tStop l id := ⟨_, rfl⟩
  have HRL := hide (show R.length ≤ 65536 from by rw [hR]; exact Nat.le_trans (tStop_len id) hl)
  rw [← hR] at HST ⊢
  clear hu hB hnb hR hl
  obtain ⟨n, hn⟩ : ∃ n, n = R.length := ⟨_, rfl⟩
  rw [← hn] at HRL ⊢
  have HN := hide hn
  clear hn
  by_cases hf : 64 ≤ n
  · have hfi : (64 : Int) ≤ (n : Int) := by omega
    rw [if_pos hf]
    clear hf
    go_enter Try.func13, Try.ntmps13
    go_wp2_with fail
    refine HST.out.mono ?_
    rintro e w1 ⟨v1, rfl, hrow, hb1⟩
    obtain ⟨A, c, rfl⟩ := EK.row_slice hrow
    rw [← HN.out] at hrow ⊢
    have HB1 := hide hb1
    clear hrow hb1
    go_wp2_with fail
    go_ret2
    exact ⟨_, rfl, EK.row_below HU.out HB1.out, fun k h => .inl h, HB1.out⟩
  have hfi : ¬ (64 : Int) ≤ (n : Int) := by omega
  rw [if_neg hf]
  go_enter Try.func13, Try.ntmps13
  go_wp2_with fail
  refine HST.out.mono ?_
  rintro e w1 ⟨v1, rfl, hrow, hb1⟩
  obtain ⟨A, c, rfl⟩ := EK.row_slice hrow
  rw [← HN.out] at hrow ⊢
  have HROW := hide hrow
  have HB1 := hide hb1
  clear hrow hb1
  have HS := hide (show RtS w1 R ⟨id, at_⟩ n w1 (.int .i64 0) from ⟨0, rfl, Nat.zero_le _, fun y hy => by simp at hy, Below.refl _ _⟩)
  have HF := hide hf
  clear hf
  go_wp2_with fail
  go_loopw [10] (fun iv wr => RtS w1 R ⟨id, at_⟩ n wr iv) (fun iv _ => n - (intOf iv).toNat)
  case atStart => exact HS.out
  case round =>
    obtain ⟨k, rfl, hk, htl, hb⟩ := hrel
    have hrow := EK.row_below HROW.out hb
    have HBR := hide hb
    have HTL := hide htl
    have HFIN : Hid ((∀ h : k < R.length, tlt R[k] ⟨id, at_⟩ = false) → ∃ s1 s2, (Instr.sliceAt 33 (.slice A n c) none (some (.int .i64 (k : Int))) none).run Try.prog wr = .ok s1 wr ∧
        ∃ v2 w2, (Builtin.append_ #[33, 33] 33 #[.slice none 0 0, s1]).run Try.prog wr = .ok v2 w2 ∧
        ∃ v3 w3, (Builtin.append_ #[33, 33] 33 #[v2, .slice (some ⟨w2.heap.size, 0, none⟩) 1 1]).run Try.prog (w2.alloc (.cells #[.int .i64 id, .int .i64 at_] 44)) = .ok v3 w3 ∧
        (Instr.sliceAt 33 (.slice A n c) (some (.int .i64 (k : Int))) none none).run Try.prog w3 = .ok s2 w3 ∧
        ∃ v4 w4, (Builtin.append_ #[33, 33] 33 #[v3, s2]).run Try.prog w3 = .ok v4 w4 ∧ RQ w B u (tIns R ⟨id, at_⟩) v4 w4) := hide (fun hst => by
      have hnR := HN.out
      obtain ⟨t1, t2⟩ := tw_split (x := R) (p := fun y => tlt y ⟨id, at_⟩) (k := k) HTL.out hst
      have hu := hrow
      rw [HN.out] at hu
      obtain ⟨p1, p2⟩ := EK.part hu (lo := 0) (hi := k) (Nat.zero_le _) (by omega) none (some (.int .i64 (k : Int))) (.inl ⟨rfl, rfl⟩) (.inr rfl)
      rw [List.drop_zero, Nat.sub_zero] at p2
      have hBs := HB.out
      have hs1 := HB1.out.size
      have hsr := hb.size
      obtain ⟨v2, w2, a1, a2, a3, a4⟩ := EK.app (EK.row_nil (K := kT) wr w1.heap.size) p2 (by rw [List.length_take]; have := HRL.out; simp; omega) hsr 33
      have hb2 : Below w1.heap.size w1 w2 := hb.trans (a3.below _ hsr (fun q _ e => by cases e))
      have hal := (Below.refl w2.heap.size w2).alloc (Nat.le_refl _) (.cells #[.int .i64 id, .int .i64 at_] 44)
      obtain ⟨v3, w3, b1, b2, b3, b4⟩ := EK.app (EK.row_below a2 hal) (EK.rd_one (K := kT) ⟨id, at_⟩ (obj_new w2 _)) (by rw [List.nil_append, List.length_take]; have := HRL.out; simp; omega) (by have := hal.size; have := hb2.size; omega) 33
      have hb3 : Below w1.heap.size w1 w3 := (hb2.trans (hal.mono hb2.size)).trans (b3.below _ (by have := hal.size; have := hb2.size; omega) (fun q hq e => by
        have h1 := (EK.row_typed a2 e).1
        omega))
      have hu3 := EK.row_below HROW.out hb3
      rw [HN.out] at hu3
      obtain ⟨p3, p4⟩ := EK.part hu3 (lo := k) (hi := R.length) (by omega) (Nat.le_refl _) (some (.int .i64 (k : Int))) none (.inr rfl) (.inl ⟨rfl, rfl⟩)
      rw [List.take_of_length_le (by rw [List.length_drop]; omega)] at p4
      obtain ⟨v4, w4, c1, c2, c3, c4⟩ := EK.app b2 p4 (by rw [List.nil_append, List.length_append, List.length_take, List.length_drop, List.length_singleton]; have := HRL.out; omega) (by have := hb3.size; omega) 33
      have hb4 : Below w1.heap.size w1 w4 := hb3.trans (c3.below _ hb3.size (fun q hq e => by
        have h1 := (EK.row_typed b2 e).1
        omega))
      rw [HN.out]
      refine ⟨_, _, p1, v2, w2, a1, v3, w3, b1, p3, v4, w4, c1, ?_⟩
      unfold RQ tIns
      rw [t1, t2]
      have e1 : ([] ++ R.take k ++ [⟨id, at_⟩]) ++ R.drop k = R.take k ++ (⟨id, at_⟩ : Tm) :: R.drop k := by simp
      rw [e1] at c2
      exact ⟨EK.row_base c2 (by omega), fun q hq => by
        have h1 := (EK.row_typed c2 hq).1
        exact .inr (by omega), HB1.out.trans (hb4.mono hs1)⟩)
    rcases Nat.lt_or_ge k n with hkl | hkl
    · have hkl' : k < R.length := by have := HN.out; omega
      obtain ⟨r, cap, e1, hz1, hz2, -, -, hcell⟩ := EK.row_cells (show kT.row wr w.heap.size (.slice A n c) R from hrow) hkl'
      rw [← HN.out] at e1 hz1
      injection e1 with e1a e1b e1c
      subst e1a e1c
      simp only [maxLen] at hz2
      obtain ⟨x, hx⟩ : ∃ x, x = R[k] := ⟨_, rfl⟩
      have q0 := hcell 0 (by decide)
      have q1 := hcell 1 (by decide)
      rw [← hx] at q0 q1
      simp only [kT, List.getElem?_cons_zero, List.getElem?_cons_succ, Nat.add_zero] at q0 q1
      have hki : (k : Int) < (n : Int) := by omega
      have HX := hide (show ∀ h : k < R.length, R[k] = x from fun _ => hx.symm)
      have HGO : Hid (tlt x ⟨id, at_⟩ = true → ∀ nq, RtS w1 R ⟨id, at_⟩ n (wr.drewN nq) (.int .i64 ((k : Int) + 1))) := hide (fun hlt nq => ⟨k + 1, rfl, hkl, fun y hy => by
        rw [List.take_add_one, List.getElem?_eq_getElem hkl'] at hy
        rcases List.mem_append.1 hy with h | h
        · exact HTL.out y h
        · simp at h
          rw [h, HX.out]
          exact hlt, below_drewN hb nq⟩)
      clear hrow hb htl hcell hx hkl' e1b
      have HTLT := hide (show tlt x ⟨id, at_⟩ = true ↔ (x.at_ < at_ ∨ (x.at_ = at_ ∧ x.id < id)) from by unfold tlt; simp)
      by_cases ht : tlt x ⟨id, at_⟩ = true
      · have ht2 := HTLT.out.1 ht
        have HG := hide (HGO.out ht)
        clear ht
        by_cases h5 : x.at_ < at_
        · clear ht2
          go_wp2_with fail
          exact ⟨HG.out 0, by simp only [intOf]; omega⟩
        · have h6 : x.at_ = at_ ∧ x.id < id := by omega
          obtain ⟨h6, h7⟩ := h6
          clear ht2
          go_wp2_with fail
          exact ⟨HG.out 0, by simp only [intOf]; omega⟩
      · have ht2 : ¬ (x.at_ < at_ ∨ (x.at_ = at_ ∧ x.id < id)) := fun h => ht (HTLT.out.2 h)
        obtain ⟨s1, s2, g1, v2, w2, g2, v3, w3, g3, g4, v4, w4, g5, hq⟩ := HFIN.out (fun h => by
          rw [HX.out]
          simpa using ht)
        have G1 := hide g1
        have G2 : Hid ((Builtin.append_ #[33, 33] 33 #[.slice none 0 0, s1]).run Try.prog wr = .ok v2 w2) := hide g2
        have G3 : Hid ((Builtin.append_ #[33, 33] 33 #[v2, .slice (some ⟨w2.heap.size, 0, none⟩) 1 1]).run Try.prog (w2.alloc (.cells #[.int .i64 id, .int .i64 at_] 44)) = .ok v3 w3) := hide g3
        have G4 := hide g4
        have G5 : Hid ((Builtin.append_ #[33, 33] 33 #[v3, s2]).run Try.prog w3 = .ok v4 w4) := hide g5
        have HQ := hide hq
        clear ht g1 g2 g3 g4 g5 hq HFIN
        by_cases h5 : x.at_ = at_
        · have h6 : ¬ x.id < id := by omega
          have h7 : ¬ x.at_ < at_ := by omega
          clear ht2
          go_wp2_with (first | (refine wpList_sliceN (u := s1) rfl 33 (.tmp 66) none (some (.tmp 67)) rfl rfl rfl rfl ?_ ?_; exact G1.out; clear G1) | (refine wpList_append_run (v' := v2) (w' := w2) rfl (.const (.slice none 0 0)) (.tmp 68) 33 33 rfl rfl rfl ?_ ?_; exact G2.out; clear G2) | (refine wpList_append_run (v' := v3) (w' := w3) rfl (.tmp 69) (.tmp 73) 33 33 rfl rfl rfl ?_ ?_; exact G3.out; clear G3) | (refine wpList_sliceN (u := s2) rfl 33 (.tmp 76) (some (.tmp 77)) none rfl rfl rfl rfl ?_ ?_; exact G4.out; clear G4) | (refine wpList_append_run (v' := v4) (w' := w4) rfl (.tmp 75) (.tmp 78) 33 33 rfl rfl rfl ?_ ?_; exact G5.out; clear G5))
          go_ret2
          exact ⟨_, rfl, HQ.out⟩
        · have h6 : ¬ x.at_ < at_ := by omega
          clear ht2
          go_wp2_with (first | (refine wpList_sliceN (u := s1) rfl 33 (.tmp 66) none (some (.tmp 67)) rfl rfl rfl rfl ?_ ?_; exact G1.out; clear G1) | (refine wpList_append_run (v' := v2) (w' := w2) rfl (.const (.slice none 0 0)) (.tmp 68) 33 33 rfl rfl rfl ?_ ?_; exact G2.out; clear G2) | (refine wpList_append_run (v' := v3) (w' := w3) rfl (.tmp 69) (.tmp 73) 33 33 rfl rfl rfl ?_ ?_; exact G3.out; clear G3) | (refine wpList_sliceN (u := s2) rfl 33 (.tmp 76) (some (.tmp 77)) none rfl rfl rfl rfl ?_ ?_; exact G4.out; clear G4) | (refine wpList_append_run (v' := v4) (w' := w4) rfl (.tmp 75) (.tmp 78) 33 33 rfl rfl rfl ?_ ?_; exact G5.out; clear G5))
          go_ret2
          exact ⟨_, rfl, HQ.out⟩
    · obtain ⟨s1, s2, g1, v2, w2, g2, v3, w3, g3, g4, v4, w4, g5, hq⟩ := HFIN.out (fun h => by
        have := HN.out
        omega)
      have G1 := hide g1
      have G2 : Hid ((Builtin.append_ #[33, 33] 33 #[.slice none 0 0, s1]).run Try.prog wr = .ok v2 w2) := hide g2
      have G3 : Hid ((Builtin.append_ #[33, 33] 33 #[v2, .slice (some ⟨w2.heap.size, 0, none⟩) 1 1]).run Try.prog (w2.alloc (.cells #[.int .i64 id, .int .i64 at_] 44)) = .ok v3 w3) := hide g3
      have G4 := hide g4
      have G5 : Hid ((Builtin.append_ #[33, 33] 33 #[v3, s2]).run Try.prog w3 = .ok v4 w4) := hide g5
      have HQ := hide hq
      have hki : ¬ (k : Int) < (n : Int) := by omega
      clear g1 g2 g3 g4 g5 hq HFIN hrow hb htl
      go_wp2_with (first | (refine wpList_sliceN (u := s1) rfl 33 (.tmp 66) none (some (.tmp 67)) rfl rfl rfl rfl ?_ ?_; exact G1.out; clear G1) | (refine wpList_append_run (v' := v2) (w' := w2) rfl (.const (.slice none 0 0)) (.tmp 68) 33 33 rfl rfl rfl ?_ ?_; exact G2.out; clear G2) | (refine wpList_append_run (v' := v3) (w' := w3) rfl (.tmp 69) (.tmp 73) 33 33 rfl rfl rfl ?_ ?_; exact G3.out; clear G3) | (refine wpList_sliceN (u := s2) rfl 33 (.tmp 76) (some (.tmp 77)) none rfl rfl rfl rfl ?_ ?_; exact G4.out; clear G4) | (refine wpList_append_run (v' := v4) (w' := w4) rfl (.tmp 75) (.tmp 78) 33 33 rfl rfl rfl ?_ ?_; exact G5.out; clear G5))
      go_ret2
      exact ⟨_, rfl, HQ.out⟩
end Go.Proofs.Ythbhpojbdpgajaa
