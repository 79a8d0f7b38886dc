/- Chapter 07, timers: the reference: Stop, Same. -/
import Derived.Test.YthbhpojbdpgajaaTiI
namespace Go.Proofs.Ythbhpojbdpgajaa
open Go.RowKit

theorem tStop_succ {l : List Tm} {k : Nat} (id : Int) (h : k < l.length) : tStop (l.take (k + 1)) id = tStop (l.take k) id ++ if (l[k].id != id) = true then [l[k]] else [] := by
  unfold tStop
  rw [List.take_add_one, List.getElem?_eq_getElem h, List.filter_append]
  congr 1
  by_cases hc : (l[k].id != id) = true <;> simp [hc]
def RsS (w : World) (l : List Tm) (id : Int) (n : Nat) (wr : World) (ov iv : Value) : Prop :=
  ∃ k : Nat, iv = .int .i64 (k : Int) ∧ k ≤ n ∧ kT.row wr w.heap.size ov (tStop (l.take k) id) ∧ Below w.heap.size w wr
set_option maxHeartbeats 8000000 in
set_option maxRecDepth 100000 in
theorem rstop_any {w : World} {B : Nat} {u : Value} {l : List Tm} (hu : kT.row w B u l) (hl : l.length ≤ 65536) (id : Int) :
    Calls Try.prog 14 #[u, .int .i64 id] w fun e w' => ∃ v', e = .returned (.tuple #[v', .bool (decide ((tStop l id).length < l.length))]) ∧ kT.row w' w.heap.size v' (tStop l id) ∧ Below w.heap.size w w' := by
  obtain ⟨A, c, rfl⟩ := EK.row_slice hu
  obtain ⟨n, hn⟩ : ∃ n, n = l.length := ⟨_, rfl⟩
  rw [← hn] at hu ⊢
  have HN := hide (show n = l.length ∧ n ≤ 65536 from ⟨hn, by omega⟩)
  have hni : (n : Int) ≤ 65536 := by omega
  have HU := hide hu
  have HS := hide (show RsS w l id n w (.slice none 0 0) (.int .i64 0) from ⟨0, rfl, Nat.zero_le _, EK.row_nil _ _, Below.refl _ _⟩)
  clear hu hn hl
  go_enter Try.func14, Try.ntmps14
  go_wp2_with fail
  go_loopw [6, 7] (fun ov iv wr => RsS w l id n wr ov iv) (fun _ iv _ => n - (intOf iv).toNat)
  case atStart => exact HS.out
  case round =>
    obtain ⟨k, rfl, hk, hrow, hb⟩ := hrel
    have hu := EK.row_below HU.out hb
    have HB := hide hb
    rcases Nat.lt_or_ge k n with hkl | hkl
    · have hkl' : k < l.length := by have := HN.out.1; omega
      obtain ⟨r, cap, e1, hz1, hz2, -, -, hcell⟩ := EK.row_cells hu hkl'
      rw [← HN.out.1] at e1 hz1
      injection e1 with e1a e1b e1c
      subst e1a e1c
      simp only [maxLen] at hz2
      obtain ⟨x, hx⟩ : ∃ x, x = l[k] := ⟨_, rfl⟩
      have q0 := hcell 0 (by decide)
      have q1 := hcell 1 (by decide)
      rw [← hx] at q0 q1
      simp only [kT, List.getElem?_cons_zero, List.getElem?_cons_succ, Nat.add_zero] at q0 q1
      have hki : (k : Int) < (n : Int) := by omega
      have HX := hide hx
      by_cases hid : x.id = id
      · have hid' : (x.id != id) = false := by simpa using hid
        have HRES := hide (show RsS w l id n wr u6 (.int .i64 ((k : Int) + 1)) from ⟨k + 1, rfl, hkl, by
          rw [tStop_succ id hkl', ← HX.out, if_neg (by rw [hid']; decide), List.append_nil]
          exact hrow, hb⟩)
        clear hrow hb hu hcell hx hid e1b
        go_wp2_with fail
        exact ⟨HRES.out, by simp only [intOf]; omega⟩
      · have hid' : (x.id != id) = true := by simpa using hid
        have hal := (Below.refl wr.heap.size wr).alloc (Nat.le_refl _) (.cells #[.int .i64 x.id, .int .i64 x.at_] 44)
        have hrow2 := EK.row_below hrow hal
        have hlen : (tStop (l.take k) id).length ≤ 65536 := Nat.le_trans (tStop_len id) (by rw [List.length_take]; have := HN.out; omega)
        obtain ⟨v4, w4, happ, hrow4, hf4, hbl4⟩ := EK.app hrow2 (EK.rd_one (K := kT) x (obj_new wr _)) (by simp; omega) (by have := hal.size; have := hb.size; omega) 33
        have HAPP : Hid ((Builtin.append_ #[33, 33] 33 #[u6, .slice (some ⟨wr.heap.size, 0, none⟩) 1 1]).run Try.prog (wr.alloc (.cells #[.int .i64 x.id, .int .i64 x.at_] 44)) = .ok v4 w4) := hide happ
        have HRES := hide (show RsS w l id n w4 v4 (.int .i64 ((k : Int) + 1)) from ⟨k + 1, rfl, hkl, by
          rw [tStop_succ id hkl', ← HX.out, if_pos hid']
          exact hrow4, (hb.trans (hal.mono hb.size)).trans (hf4.below _ (by have := hal.size; have := hb.size; omega) (fun q hq e => by
            have := (EK.row_typed hrow e).1
            omega))⟩)
        clear hrow hb hu hcell hx hid hal hrow2 hlen happ hrow4 hf4 hbl4 e1b
        go_wp2_with (refine wpList_append_run rfl (.tmp 21) (.tmp 26) 33 33 rfl rfl rfl HAPP.out ?_)
        exact ⟨HRES.out, by simp only [intOf]; omega⟩
    · have hke : n = k := by omega
      subst hke
      have e1 : l.take n = l := List.take_of_length_le (by have := HN.out.1; omega)
      rw [e1] at hrow
      obtain ⟨A6, c6, e6⟩ := EK.row_slice hrow
      obtain ⟨m, hm⟩ : ∃ m, m = (tStop l id).length := ⟨_, rfl⟩
      rw [← hm] at e6
      have HM := hide hm
      have HROW := hide hrow
      subst e6
      clear hrow hb hu hm e1
      go_wp2
      go_ret2
      refine ⟨.slice A6 m c6, ?_, HROW.out, HB.out⟩
      have hmm := HM.out
      show _ = Ending.returned (.tuple #[_, .bool (decide ((tStop l id).length < n))])
      rw [← hmm]
      rfl
def SameT (w0 : World) (n : Nat) (w : World) (i : Value) : Prop := ∃ k : Nat, i = .int .i64 k ∧ k ≤ n ∧ Below w0.heap.size w0 w
set_option maxHeartbeats 4000000 in
set_option maxRecDepth 100000 in
theorem rsame_yes {w : World} {B B' : Nat} {u v : Value} {l : List Tm} (hu : kT.row w B u l) (hv : kT.row w B' v l) : Calls Try.prog 18 #[u, v] w fun e w' => e = .returned (.bool true) ∧ Below w.heap.size w w' := by
  obtain ⟨A, c, rfl⟩ := EK.row_slice hu
  obtain ⟨A', c', rfl⟩ := EK.row_slice hv
  obtain ⟨n, hn⟩ : ∃ n, n = l.length := ⟨_, rfl⟩
  rw [← hn] at hu hv ⊢
  have HN := hide hn
  have HU := hide hu
  have HV := hide hv
  have HS : Hid (SameT w n w (.int .i64 0)) := hide ⟨0, rfl, Nat.zero_le _, Below.refl _ _⟩
  clear hu hv hn
  go_enter Try.func18, Try.ntmps18
  go_wp2_with fail
  go_loopw [5] (fun i wr => SameT w n wr i) (fun i _ => n - (intOf i).toNat)
  case atStart => exact HS.out
  case round =>
    obtain ⟨k, rfl, hk, hb⟩ := hrel
    have HB := hide hb
    have hu := EK.row_below HU.out hb
    have hv := EK.row_below HV.out hb
    clear hb
    rcases Nat.lt_or_ge k n with hkl | hkl
    · have hkl' : k < l.length := by have := HN.out; omega
      obtain ⟨r, cap, e1, hz1, hz2, -, -, hcell⟩ := EK.row_cells hu hkl'
      obtain ⟨r', cap', e2, hz3, hz4, -, -, hcell2⟩ := EK.row_cells hv hkl'
      rw [← HN.out] at e1 e2 hz1 hz3
      injection e1 with e1a e1b e1c
      subst e1a e1c
      injection e2 with e2a e2b e2c
      subst e2a e2c
      simp only [maxLen] at hz2 hz4
      obtain ⟨x, hx⟩ : ∃ x, x = l[k] := ⟨_, rfl⟩
      have q0 := hcell 0 (by decide)
      have q1 := hcell 1 (by decide)
      have p0 := hcell2 0 (by decide)
      have p1 := hcell2 1 (by decide)
      rw [← hx] at q0 q1 p0 p1
      simp only [kT, List.getElem?_cons_zero, List.getElem?_cons_succ, Nat.add_zero] at q0 q1 p0 p1
      have hki : (k : Int) < (n : Int) := by omega
      have HRES := hide (fun nq => show SameT w n (wr.drewN nq) (.int .i64 ((k : Int) + 1)) from ⟨k + 1, rfl, hkl, below_drewN HB.out nq⟩)
      clear hcell hcell2 hu hv hx e1b e2b
      go_wp2_with fail
      go_quiet (fail)
      go_wp2_with fail
      exact ⟨HRES.out _, by simp only [intOf]; omega⟩
    · obtain rfl : k = n := by omega
      clear hu hv
      go_wp2
      go_ret
      exact ⟨rfl, HB.out⟩
end Go.Proofs.Ythbhpojbdpgajaa
