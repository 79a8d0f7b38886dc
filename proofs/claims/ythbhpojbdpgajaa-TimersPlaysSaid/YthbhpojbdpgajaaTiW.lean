/- Chapter 07, timers: the reference: Due. -/
import Derived.Test.YthbhpojbdpgajaaTiQ
namespace Go.Proofs.Ythbhpojbdpgajaa
open Go.RowKit

theorem rows_ne {w : World} {B B' : Nat} {u v : Value} {l : List Tm} {a : List Int} (h : kT.row w B u l) (h2 : kI.row w B' v a) : ∀ k, u.ownBlock = some k → ¬ v.ownBlock = some k := fun k e e2 => by
  obtain ⟨-, -, cs, h7⟩ := EK.row_typed h e
  obtain ⟨-, -, cs', h8⟩ := EK.row_typed h2 e2
  rw [h7] at h8
  simp only [Option.some.injEq, Obj.cells.injEq] at h8
  exact absurd h8.2.1 (by decide)
theorem tDue_succ {l : List Tm} {k : Nat} (now : Int) (h : k < l.length) : tDue (l.take (k + 1)) now = if l[k].at_ ≤ now then ((tDue (l.take k) now).1, (tDue (l.take k) now).2 ++ [l[k].id]) else ((tDue (l.take k) now).1 ++ [l[k]], (tDue (l.take k) now).2) := by
  unfold tDue
  rw [List.take_add_one, List.getElem?_eq_getElem h, List.filter_append, List.filter_append, List.map_append]
  by_cases hc : l[k].at_ ≤ now
  · rw [if_pos hc]
    have h1 : ¬ now < l[k].at_ := by omega
    simp [hc, h1]
  · rw [if_neg hc]
    have h1 : now < l[k].at_ := by omega
    simp [hc, h1]
theorem tDue_len (l : List Tm) (now : Int) : (tDue l now).1.length ≤ l.length ∧ (tDue l now).2.length ≤ l.length := by
  unfold tDue
  simp only [List.length_map]
  exact ⟨List.length_filter_le _ _, List.length_filter_le _ _⟩
def RdS (w : World) (l : List Tm) (now : Int) (n : Nat) (wr : World) (rv ov iv : Value) : Prop :=
  ∃ k : Nat, iv = .int .i64 (k : Int) ∧ k ≤ n ∧ kT.row wr w.heap.size rv (tDue (l.take k) now).1 ∧ kI.row wr w.heap.size ov (tDue (l.take k) now).2 ∧ Below w.heap.size w wr
set_option maxHeartbeats 8000000 in
set_option maxRecDepth 100000 in
theorem rdue_any {w : World} {B : Nat} {u : Value} {l : List Tm} (hu : kT.row w B u l) (hl : l.length ≤ 65536) (now : Int) :
    Calls Try.prog 16 #[u, .int .i64 now] w fun e w' => ∃ v' o', e = .returned (.tuple #[v', o']) ∧ kT.row w' w.heap.size v' (tDue l now).1 ∧ kI.row w' w.heap.size o' (tDue l now).2 ∧ Below w.heap.size w w' := by
  obtain ⟨A, c, rfl⟩ := EK.row_slice hu
  obtain ⟨n, hn⟩ : ∃ n, n = l.length := ⟨_, rfl⟩
  rw [← hn] at hu ⊢
  have HN := hide (show n = l.length ∧ n ≤ 65536 from ⟨hn, by omega⟩)
  have hni : (n : Int) ≤ 65536 := by omega
  have HU := hide hu
  have HS := hide (show RdS w l now n w (.slice none 0 0) (.slice none 0 0) (.int .i64 0) from ⟨0, rfl, Nat.zero_le _, EK.row_nil _ _, EK.row_nil _ _, Below.refl _ _⟩)
  clear hu hn hl
  go_enter Try.func16, Try.ntmps16
  go_wp2_with fail
  go_loopw [6, 7, 8] (fun rv ov iv wr => RdS w l now n wr rv ov iv) (fun _ _ iv _ => n - (intOf iv).toNat)
  case atStart => exact HS.out
  case round =>
    obtain ⟨k, rfl, hk, hrow, hro, hb⟩ := hrel
    have hu := EK.row_below HU.out hb
    have HB := hide hb
    rcases Nat.lt_or_ge k n with hkl | hkl
    · have hkl' : k < l.length := by have := HN.out.1; omega
      obtain ⟨r, cap, e1, hz1, hz2, -, -, hcell⟩ := EK.row_cells hu hkl'
      rw [← HN.out.1] at e1 hz1
      injection e1 with e1a e1b e1c
      subst e1a e1c
      simp only [maxLen] at hz2
      obtain ⟨x, hx⟩ : ∃ x, x = l[k] := ⟨_, rfl⟩
      have q0 := hcell 0 (by decide)
      have q1 := hcell 1 (by decide)
      rw [← hx] at q0 q1
      simp only [kT, List.getElem?_cons_zero, List.getElem?_cons_succ, Nat.add_zero] at q0 q1
      have hki : (k : Int) < (n : Int) := by omega
      have HX := hide hx
      have hlens := tDue_len (l.take k) now
      have hlk : (l.take k).length ≤ 65536 := by rw [List.length_take]; have := HN.out; omega
      by_cases hid : x.at_ ≤ now
      · have hal := (Below.refl wr.heap.size wr).alloc (Nat.le_refl _) (.cells #[.int .i64 x.id] 3)
        obtain ⟨v4, w4, happ, hrow4, hf4, hbl4⟩ := EK.app (EK.row_below hro hal) (EK.rd_one (K := kI) x.id (obj_new wr _)) (by simp; omega) (by have := hal.size; have := hb.size; omega) 28
        have HAPP : Hid ((Builtin.append_ #[28, 28] 28 #[u7, .slice (some ⟨wr.heap.size, 0, none⟩) 1 1]).run Try.prog (wr.alloc (.cells #[.int .i64 x.id] 3)) = .ok v4 w4) := hide happ
        have HRES := hide (show RdS w l now n w4 u6 v4 (.int .i64 ((k : Int) + 1)) from ⟨k + 1, rfl, hkl, by
          rw [tDue_succ now hkl', ← HX.out, if_pos hid]
          exact EK.row_fr (EK.row_below hrow hal) hf4 (rows_ne hrow hro), by
          rw [tDue_succ now hkl', ← HX.out, if_pos hid]
          exact hrow4, (hb.trans (hal.mono hb.size)).trans (hf4.below _ (by have := hal.size; have := hb.size; omega) (fun q hq e => by
            have := (EK.row_typed hro e).1
            omega))⟩)
        clear hrow hro hb hu hcell hx hal hrow4 hf4 hbl4 e1b hlens hlk
        go_wp2_with (refine wpList_append_run (v' := v4) (w' := w4) rfl (.tmp 22) (.tmp 28) 28 28 rfl rfl rfl ?_ ?_; exact HAPP.out)
        exact ⟨HRES.out, by simp only [intOf]; omega⟩
      · have hal := (Below.refl wr.heap.size wr).alloc (Nat.le_refl _) (.cells #[.int .i64 x.id, .int .i64 x.at_] 44)
        obtain ⟨v4, w4, happ, hrow4, hf4, hbl4⟩ := EK.app (EK.row_below hrow hal) (EK.rd_one (K := kT) x (obj_new wr _)) (by simp; omega) (by have := hal.size; have := hb.size; omega) 33
        have HAPP : Hid ((Builtin.append_ #[33, 33] 33 #[u6, .slice (some ⟨wr.heap.size, 0, none⟩) 1 1]).run Try.prog (wr.alloc (.cells #[.int .i64 x.id, .int .i64 x.at_] 44)) = .ok v4 w4) := hide happ
        have HRES := hide (show RdS w l now n w4 v4 u7 (.int .i64 ((k : Int) + 1)) from ⟨k + 1, rfl, hkl, by
          rw [tDue_succ now hkl', ← HX.out, if_neg hid]
          exact hrow4, by
          rw [tDue_succ now hkl', ← HX.out, if_neg hid]
          exact EK.row_fr (EK.row_below hro hal) hf4 (fun q h1 h2 => rows_ne hrow hro q h2 h1), (hb.trans (hal.mono hb.size)).trans (hf4.below _ (by have := hal.size; have := hb.size; omega) (fun q hq e => by
            have := (EK.row_typed hrow e).1
            omega))⟩)
        clear hrow hro hb hu hcell hx hal hrow4 hf4 hbl4 e1b hlens hlk
        go_wp2_with (refine wpList_append_run (v' := v4) (w' := w4) rfl (.tmp 30) (.tmp 35) 33 33 rfl rfl rfl ?_ ?_; exact HAPP.out)
        exact ⟨HRES.out, by simp only [intOf]; omega⟩
    · have hke : n = k := by omega
      subst hke
      have e1 : l.take n = l := List.take_of_length_le (by have := HN.out.1; omega)
      rw [e1] at hrow hro
      have HROW := hide hrow
      have HRO := hide hro
      clear hrow hro hb hu e1
      go_wp2
      go_ret2
      exact ⟨_, _, rfl, HROW.out, HRO.out, HB.out⟩
end Go.Proofs.Ythbhpojbdpgajaa
