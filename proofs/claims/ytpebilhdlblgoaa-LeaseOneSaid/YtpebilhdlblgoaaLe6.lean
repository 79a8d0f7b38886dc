/- Chapter 27, lease: Of. -/
import Derived.Test.YtpebilhdlblgoaaLe5
namespace Go.Proofs.Ytpebilhdlblgoaa
open Go.RowKit

theorem lof_nil (HSORT : SortsL) (cl : Int) (w : World) : Calls Try.prog 16 #[.pointer none, .int .i64 cl] w fun e w' => e = .returned (.slice none 0 0) ∧ Below w.heap.size w w' := by
  have HA := hide (lall_nil HSORT w)
  go_enter Try.func16, Try.ntmps16
  go_wp2_with fail
  refine HA.out.mono ?_
  rintro e w1 ⟨v', rfl, hrow, hb⟩
  obtain ⟨A, c, rfl⟩ := EK.row_slice hrow
  clear hrow
  go_wp2_with fail
  go_loopw [5, 11] (fun ov iv wr => ov = .slice none 0 0 ∧ iv = .int .i64 0 ∧ Below w.heap.size w wr) (fun _ _ _ => 0)
  case atStart => exact ⟨rfl, rfl, hb⟩
  case round =>
    obtain ⟨rfl, rfl, hb⟩ := hrel
    go_wp2
    go_ret
    exact ⟨rfl, hb⟩
set_option maxHeartbeats 8000000 in
set_option maxRecDepth 100000 in
theorem lof_any (HSORT : SortsL) {w : World} {g c : Nat} {S : Les} (h : LV w g c S) (hd : LOk S) (cl : Int) :
    Calls Try.prog 16 #[.pointer (some ⟨g, 0, none⟩), .int .i64 cl] w fun e w' => ∃ l v', AllL S l ∧ e = .returned v' ∧ kR.row w' w.heap.size v' (OfF l cl) ∧ Below w.heap.size w w' := by
  have HA := hide (lall_any HSORT h hd)
  have HD := hide hd
  clear h hd
  go_enter Try.func16, Try.ntmps16
  go_wp2_with fail
  refine HA.out.mono ?_
  rintro e w1 ⟨v1, l, rfl, hrow, h1, h2, hb⟩
  obtain ⟨A, lc, rfl⟩ := EK.row_slice hrow
  obtain ⟨n, hn⟩ : ∃ n, n = l.length := ⟨_, rfl⟩
  have hn8 : l.length ≤ 256 := by
    have := nodup_sub_len (S := l.map (·.ino)) (L := (List.range 256).map fun i : Nat => (i : Int)) (by
      rw [List.nodup_iff_pairwise_ne, List.pairwise_map]
      exact h2.imp (fun h => by omega)) (fun k hk => by
      obtain ⟨p, hp, rfl⟩ := List.mem_map.1 hk
      obtain ⟨-, a, b⟩ := HD.out _ _ ((h1 p).1 hp)
      exact List.mem_map.2 ⟨p.ino.toNat, List.mem_range.2 (by omega), by omega⟩)
    simpa using this
  have HLL := hide (show n = l.length ∧ l.length ≤ 256 from ⟨hn, hn8⟩)
  rw [← hn] at hrow ⊢
  have HL := hide (show AllL S l from ⟨h1, h2⟩)
  have HS := hide (show OfLs w l (.slice A n lc) cl w.heap.size w1 (.slice none 0 0) (.int .i64 0) from ⟨0, rfl, Nat.zero_le _, by rw [hn] at hrow ⊢; exact hrow, EK.row_nil _ _, (fun q e => by cases e), hb⟩)
  have hni : (n : Int) ≤ 256 := by omega
  clear hrow h1 h2 hb hn hn8
  go_wp2_with fail
  go_loopw [5, 11] (fun ov iv wr => OfLs w l (.slice A n lc) cl w.heap.size wr ov iv) (fun _ iv _ => n - (intOf iv).toNat)
  case atStart => exact HS.out
  case round =>
    obtain ⟨k, rfl, hk, hrow, hout, hap, hb⟩ := hrel
    rw [← HLL.out.1] at hk
    rcases Nat.lt_or_ge k n with hkl | hkl
    · have hkl' : k < l.length := by have := HLL.out; omega
      obtain ⟨r, cap, e0, hc1, hc2, hr1, hr2, hcell⟩ := EK.row_cells hrow hkl'
      simp only [maxLen] at hc2
      have e1 : A = some ⟨r, 0, none⟩ := by cases e0; rfl
      have e2 : lc = cap := by cases e0; rfl
      subst e1 e2
      obtain ⟨x, hx⟩ : ∃ x, x = l[k] := ⟨_, rfl⟩
      have q0 := hcell 0 (by decide)
      have q1 := hcell 1 (by decide)
      have q2 := hcell 2 (by decide)
      have q3 := hcell 3 (by decide)
      rw [← hx] at q0 q1 q2 q3
      simp only [kR, List.getElem?_cons_zero, List.getElem?_cons_succ, Nat.add_zero] at q0 q1 q2 q3
      have HB := hide hb
      have HROW := hide hrow
      have HOUT := hide hout
      have HAP := hide hap
      have HX := hide hx
      obtain ⟨W1, hW1⟩ : ∃ W1, W1 = wr.alloc (.cells #[.int .i64 x.ino, .int .i64 x.cli, .int .i64 x.til, .int .i64 x.tok] 30) := ⟨_, rfl⟩
      have hbW : Below wr.heap.size wr W1 := by rw [hW1]; exact (Below.refl _ _).alloc (Nat.le_refl _) _
      have hs1 : W1.heap.size = wr.heap.size + 1 := by rw [hW1]; simp
      have hsW := HB.out.size
      by_cases hcl : x.cli = cl
      · have hbW2 : Below W1.heap.size W1 (W1.alloc (.cells #[.int .i64 x.ino, .int .i64 x.cli, .int .i64 x.til, .int .i64 x.tok] 30)) := (Below.refl _ _).alloc (Nat.le_refl _) _
        have hrow2 := EK.row_below (EK.row_below HROW.out hbW) hbW2
        have hout2 := EK.row_below (EK.row_below HOUT.out hbW) hbW2
        have hb2 : Below w.heap.size w (W1.alloc (.cells #[.int .i64 x.ino, .int .i64 x.cli, .int .i64 x.til, .int .i64 x.tok] 30)) := (HB.out.trans (hbW.mono hsW)).trans (hbW2.mono (by omega))
        have hofl : (OfF (l.take k) cl).length ≤ 256 := Nat.le_trans (List.length_filter_le _ _) (by rw [List.length_take]; have := HLL.out; omega)
        obtain ⟨v4, w4, happ, hrow4, hf4, hbl4⟩ := EK.app hout2 (EK.rd_one (K := kR) x (obj_new W1 _)) (by simp; omega) hb2.size 26
        rw [hs1] at happ
        have HAPP : Hid ((Builtin.append_ #[26, 26] 26 #[u5, .slice (some ⟨wr.heap.size + 1, 0, none⟩) 1 1]).run Try.prog (W1.alloc (.cells #[.int .i64 x.ino, .int .i64 x.cli, .int .i64 x.til, .int .i64 x.tok] 30)) = .ok v4 w4) := hide happ
        rw [hW1] at HAPP
        have HRES := hide (show OfLs w l (.slice (some ⟨r, 0, none⟩) n lc) cl w.heap.size w4 v4 (.int .i64 ((k + 1 : Nat) : Int)) from ⟨k + 1, rfl, hkl', EK.row_fr hrow2 hf4 (fun q hq e => HAP.out q e hq), by
          rw [ofF_succ cl hkl', ← HX.out, if_pos (by simpa using hcl)]
          exact hrow4, fun q hq e => by
            rcases hbl4 with h5 | h5
            · exact HAP.out q (h5 ▸ hq) e
            · rw [h5] at hq
              have e5 : q = (W1.alloc (.cells #[.int .i64 x.ino, .int .i64 x.cli, .int .i64 x.til, .int .i64 x.tok] 30)).heap.size := by cases hq; rfl
              have := (EK.row_typed hrow2 e).2.1
              omega, hb2.trans (hf4.below _ hb2.size (fun j hj e => by
                have := (EK.row_typed hout2 e).1
                omega))⟩)
        subst hcl
        clear hb hrow hout hap hx hbW hs1 hbW2 hrow2 hout2 hb2 hofl happ hrow4 hf4 hbl4 hW1
        go_wp2_with (refine wpList_append_run rfl (.tmp 19) (.tmp 21) 26 26 rfl rfl rfl HAPP.out ?_)
        exact ⟨HRES.out, by simp only [intOf]; omega⟩
      · have hcl2 : (x.cli == cl) = false := by simpa using hcl
        have HRES := hide (show OfLs w l (.slice (some ⟨r, 0, none⟩) n lc) cl w.heap.size W1 u5 (.int .i64 ((k + 1 : Nat) : Int)) from ⟨k + 1, rfl, hkl', EK.row_below HROW.out hbW, by
          rw [ofF_succ cl hkl', ← HX.out, if_neg (by simpa using hcl), List.append_nil]
          exact EK.row_below HOUT.out hbW, HAP.out, HB.out.trans (hbW.mono hsW)⟩)
        rw [hW1] at HRES
        clear hb hrow hout hap hx hbW hs1 hW1
        go_wp2_with fail
        exact ⟨HRES.out, by simp only [intOf]; omega⟩
    · have hke : n = k := by omega
      subst hke
      have HO := hide hout
      have HB := hide hb
      have HK := hide hk
      clear hrow hout hap hb
      go_wp2
      go_ret
      have e9 : OfF (l.take n) cl = OfF l cl := by rw [List.take_of_length_le (by have := HLL.out; omega)]
      exact ⟨l, _, HL.out, rfl, by rw [← e9]; exact HO.out, HB.out⟩
end Go.Proofs.Ytpebilhdlblgoaa
