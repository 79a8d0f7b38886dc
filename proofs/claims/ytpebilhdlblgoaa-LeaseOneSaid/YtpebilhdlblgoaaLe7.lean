/- Chapter 27, lease: Sweep. -/
import Derived.Test.YtpebilhdlblgoaaLe6
namespace Go.Proofs.Ytpebilhdlblgoaa
open Go.RowKit

def swF (f : Int → Option Lse) (l : List Lse) (nw : Int) : Int → Option Lse := l.foldl (fun f x => if x.til ≤ nw then upm f x.ino none else f) f
def swN (l : List Lse) (nw : Int) : Nat := (l.filter fun x => decide (x.til ≤ nw)).length
theorem swF_succ {f : Int → Option Lse} {l : List Lse} {k : Nat} (nw : Int) (h : k < l.length) : swF f (l.take (k + 1)) nw = if l[k].til ≤ nw then upm (swF f (l.take k) nw) l[k].ino none else swF f (l.take k) nw := by
  unfold swF
  rw [List.take_add_one, List.getElem?_eq_getElem h, List.foldl_append]
  rfl
theorem swN_succ {l : List Lse} {k : Nat} (nw : Int) (h : k < l.length) : swN (l.take (k + 1)) nw = swN (l.take k) nw + if l[k].til ≤ nw then 1 else 0 := by
  unfold swN
  rw [List.take_add_one, List.getElem?_eq_getElem h, List.filter_append, List.length_append]
  congr 1
  by_cases hc : l[k].til ≤ nw <;> simp [hc]
theorem swF_at (nw : Int) (j : Int) : ∀ (l : List Lse) (f : Int → Option Lse), swF f l nw j = if ∃ x ∈ l, x.ino = j ∧ x.til ≤ nw then none else f j
  | [], f => by simp [swF]
  | x :: l, f => by
    have e : swF f (x :: l) nw = swF (if x.til ≤ nw then upm f x.ino none else f) l nw := rfl
    rw [e, swF_at nw j l]
    by_cases h1 : ∃ y ∈ l, y.ino = j ∧ y.til ≤ nw
    · rw [if_pos h1, if_pos (by obtain ⟨y, a, b⟩ := h1; exact ⟨y, by simp [a], b⟩)]
    · rw [if_neg h1]
      by_cases h2 : x.til ≤ nw
      · rw [if_pos h2]
        by_cases h3 : j = x.ino
        · rw [h3, upm_same, if_pos ⟨x, by simp, rfl, h2⟩]
        · rw [upm_other _ _ h3, if_neg]
          rintro ⟨y, hy, a, b⟩
          rcases List.mem_cons.1 hy with rfl | hy
          · exact h3 a.symm
          · exact h1 ⟨y, hy, a, b⟩
      · rw [if_neg h2, if_neg]
        rintro ⟨y, hy, a, b⟩
        rcases List.mem_cons.1 hy with rfl | hy
        · exact h2 b
        · exact h1 ⟨y, hy, a, b⟩
/-- What Sweep leaves. -/
def sweepL (S : Les) (nw : Int) : Les := ⟨fun k => (S.f k).filter fun x => !decide (x.til ≤ nw), S.tok⟩
theorem swF_all {S : Les} {l : List Lse} (hd : LOk S) (h : AllL S l) (nw : Int) : (⟨swF S.f l nw, S.tok⟩ : Les) = sweepL S nw := by
  unfold sweepL
  congr 1
  funext j
  rw [swF_at]
  rcases e : S.f j with _ | x
  · rw [if_neg]
    · rfl
    · rintro ⟨y, hy, a, -⟩
      have h5 := (h.1 y).1 hy
      rw [a, e] at h5
      cases h5
  · have hx := (hd _ _ e).1
    by_cases h2 : x.til ≤ nw
    · rw [if_pos ⟨x, (h.1 x).2 (by rw [hx]; exact e), hx, h2⟩]
      show none = if (!decide (x.til ≤ nw)) = true then some x else none
      rw [if_neg (by simp [h2])]
    · rw [if_neg]
      · show some x = if (!decide (x.til ≤ nw)) = true then some x else none
        rw [if_pos (by simp [h2])]
      · rintro ⟨y, hy, a, b⟩
        have := (h.1 y).1 hy
        rw [a, e] at this
        cases this
        exact h2 b
theorem lsweep_nil (HSORT : SortsL) (nw : Int) (w : World) : Calls Try.prog 14 #[.pointer none, .int .i64 nw] w fun e w' => e = .returned (.int .i64 0) ∧ Below w.heap.size w w' := by
  have HA := hide (lall_nil HSORT w)
  go_enter Try.func14, Try.ntmps14
  go_wp2_with fail
  refine HA.out.mono ?_
  rintro e w1 ⟨v', rfl, hrow, hb⟩
  obtain ⟨A, c, rfl⟩ := EK.row_slice hrow
  clear hrow
  go_wp2_with fail
  go_loopw [5, 11] (fun ov iv wr => ov = .int .i64 0 ∧ iv = .int .i64 0 ∧ Below w.heap.size w wr) (fun _ _ _ => 0)
  case atStart => exact ⟨rfl, rfl, hb⟩
  case round =>
    obtain ⟨rfl, rfl, hb⟩ := hrel
    go_wp2
    go_ret
    exact ⟨rfl, hb⟩
def SwLs (w : World) (g c : Nat) (S : Les) (l : List Lse) (lv : Value) (nw : Int) (B : Nat) (wr : World) (nv iv : Value) : Prop :=
  ∃ k : Nat, iv = .int .i64 (k : Int) ∧ k ≤ l.length ∧ nv = .int .i64 (swN (l.take k) nw : Int) ∧ kR.row wr B lv l ∧ LV wr g c ⟨swF S.f (l.take k) nw, S.tok⟩ ∧ Fr (fun j => j = c) w wr
set_option maxHeartbeats 8000000 in
set_option maxRecDepth 100000 in
theorem lsweep_any (HSORT : SortsL) {w : World} {g c : Nat} {S : Les} (h : LV w g c S) (hd : LOk S) (nw : Int) :
    Calls Try.prog 14 #[.pointer (some ⟨g, 0, none⟩), .int .i64 nw] w fun e w' => ∃ l, AllL S l ∧ e = .returned (.int .i64 (swN l nw : Int)) ∧ LV w' g c (sweepL S nw) ∧ Fr (fun j => j = c) w w' := by
  have HA := hide (lall_any HSORT h hd)
  have HD := hide hd
  have HV := hide h
  clear h hd
  go_enter Try.func14, Try.ntmps14
  go_wp2_with fail
  refine HA.out.mono ?_
  rintro e w1 ⟨v1, l, rfl, hrow, h1, h2, hb⟩
  obtain ⟨A, lc, rfl⟩ := EK.row_slice hrow
  obtain ⟨n, hn⟩ : ∃ n, n = l.length := ⟨_, rfl⟩
  have hn8 : l.length ≤ 256 := by
    have := nodup_sub_len (S := l.map (·.ino)) (L := (List.range 256).map fun i : Nat => (i : Int)) (by
      rw [List.nodup_iff_pairwise_ne, List.pairwise_map]
      exact h2.imp (fun h => by omega)) (fun k hk => by
      obtain ⟨p, hp, rfl⟩ := List.mem_map.1 hk
      obtain ⟨-, a, b⟩ := HD.out _ _ ((h1 p).1 hp)
      exact List.mem_map.2 ⟨p.ino.toNat, List.mem_range.2 (by omega), by omega⟩)
    simpa using this
  have HLL := hide (show n = l.length ∧ l.length ≤ 256 from ⟨hn, hn8⟩)
  rw [← hn] at hrow ⊢
  have HL := hide (show AllL S l from ⟨h1, h2⟩)
  have HS := hide (show SwLs w g c S l (.slice A n lc) nw w.heap.size w1 (.int .i64 0) (.int .i64 0) from ⟨0, rfl, Nat.zero_le _, rfl, by rw [hn] at hrow ⊢; exact hrow, HV.out.below hb, Fr.of_below hb⟩)
  have hni : (n : Int) ≤ 256 := by omega
  have hcl := HV.out.lt.2
  have HCL := hide hcl
  clear hrow h1 h2 hb hn hn8 hcl
  go_wp2_with fail
  go_loopw [5, 11] (fun nv iv wr => SwLs w g c S l (.slice A n lc) nw w.heap.size wr nv iv) (fun _ iv _ => n - (intOf iv).toNat)
  case atStart => exact HS.out
  case round =>
    obtain ⟨k, rfl, hk, rfl, hrow, hv, hf⟩ := hrel
    rw [← HLL.out.1] at hk
    have hsn : swN (l.take k) nw ≤ 256 := Nat.le_trans (List.length_filter_le _ _) (by rw [List.length_take]; have := HLL.out; omega)
    rcases Nat.lt_or_ge k n with hkl | hkl
    · have hkl' : k < l.length := by have := HLL.out; omega
      obtain ⟨r, cap, e0, hc1, hc2, hr1, hr2, hcell⟩ := EK.row_cells hrow hkl'
      simp only [maxLen] at hc2
      have e1 : A = some ⟨r, 0, none⟩ := by cases e0; rfl
      have e2 : lc = cap := by cases e0; rfl
      subst e1 e2
      obtain ⟨x, hx⟩ : ∃ x, x = l[k] := ⟨_, rfl⟩
      have q0 := hcell 0 (by decide)
      have q1 := hcell 1 (by decide)
      have q2 := hcell 2 (by decide)
      have q3 := hcell 3 (by decide)
      rw [← hx] at q0 q1 q2 q3
      simp only [kR, List.getElem?_cons_zero, List.getElem?_cons_succ, Nat.add_zero] at q0 q1 q2 q3
      have z0 := obj_cell hv.1 0
      simp only [List.getElem?_toArray, List.getElem?_cons_zero] at z0
      have HROW := hide hrow
      have HX := hide hx
      have HF := hide hf
      have HGW := hide hv.lt
      obtain ⟨m, hm⟩ : ∃ m, m = swN (l.take k) nw := ⟨_, rfl⟩
      have HM := hide hm
      rw [← hm] at hsn ⊢
      obtain ⟨W1, hW1⟩ : ∃ W1, W1 = wr.alloc (.cells #[.int .i64 x.ino, .int .i64 x.cli, .int .i64 x.til, .int .i64 x.tok] 30) := ⟨_, rfl⟩
      have hbW : Below wr.heap.size wr W1 := by rw [hW1]; exact (Below.refl _ _).alloc (Nat.le_refl _) _
      have hv1 := hv.below hbW
      by_cases hcl : x.til ≤ nw
      · have hv2 : LV W1.drew g c ⟨swF S.f (l.take k) nw, S.tok⟩ := hv1
        obtain ⟨W2, hdel, hm2, hf2, -⟩ := MK.run_del hv2.2 x.ino 0
        have z1 := obj_cell hv1.1 0
        have ox : W1.heap[wr.heap.size]? = some (.cells #[.int .i64 x.ino, .int .i64 x.cli, .int .i64 x.til, .int .i64 x.tok] 30 (0, 0)) := by rw [hW1]; exact obj_new _ _
        have x0 := obj_cell ox 0
        simp only [List.getElem?_toArray, List.getElem?_cons_zero] at z1 x0
        have HDEL : Hid ((Builtin.delete_ #[60, 3] 0 #[.map (some c), .int .i64 x.ino]).run Try.prog W1.drew = .ok (.tuple #[]) W2) := hide hdel
        have hg2 : Fr (fun j => j = c) wr W2 := ((Fr.of_below hbW).drew).trans hf2 (fun _ _ e => e)
        have HRES := hide (show SwLs w g c S l (.slice (some ⟨r, 0, none⟩) n lc) nw w.heap.size W2 (.int .i64 ((m : Int) + 1)) (.int .i64 ((k : Int) + 1)) from ⟨k + 1, rfl, hkl', by rw [swN_succ nw hkl', ← HX.out, if_pos hcl, ← HM.out]; rfl, EK.row_fr hrow hg2 (fun q hq e => by
            have := (EK.row_typed hrow hq).1
            have := HCL.out
            omega), ⟨hf2.obj hv2.1 hv2.gc, by rw [swF_succ nw hkl', ← HX.out, if_pos hcl]; exact hm2⟩, hf.trans hg2 (fun _ _ e => e)⟩)
        clear hrow hf hx hm hbW hv1 hv2 hdel hm2 hf2 hg2 hv ox
        go_wp2_with fail
        rw [← hW1]
        clear hW1 z0
        refine wp_stl 6 (by kernel_rfl) (by kernel_rfl) ?_
        simp only [List.take_succ_cons, List.take_zero, List.drop_succ_cons, List.drop_zero]
        repeat still_step
        refine wpStill_nil ?_
        have hdel' := HDEL.out
        go_wp2_with fail
        exact ⟨HRES.out, by simp only [intOf]; omega⟩
      · have HRES := hide (show SwLs w g c S l (.slice (some ⟨r, 0, none⟩) n lc) nw w.heap.size W1 (.int .i64 (m : Int)) (.int .i64 ((k : Int) + 1)) from ⟨k + 1, rfl, hkl', by rw [swN_succ nw hkl', ← HX.out, if_neg hcl, ← HM.out]; rfl, EK.row_below hrow hbW, by rw [swF_succ nw hkl', ← HX.out, if_neg hcl]; exact hv1, hf.trans (Fr.of_below hbW) (fun _ _ e => e)⟩)
        rw [hW1] at HRES
        clear hrow hf hx hm hbW hW1 hv1 hv
        go_wp2_with fail
        exact ⟨HRES.out, by simp only [intOf]; omega⟩
    · have hke : n = k := by omega
      subst hke
      have HV2 := hide hv
      have HF := hide hf
      clear hrow hv hf
      obtain ⟨m, hm⟩ : ∃ m, m = swN (l.take n) nw := ⟨_, rfl⟩
      have HM := hide hm
      rw [← hm] at hsn ⊢
      clear hm
      go_wp2
      go_ret
      have e9 : l.take n = l := List.take_of_length_le (by have := HLL.out; omega)
      refine ⟨l, HL.out, ?_, ?_, HF.out⟩
      · show Ending.returned (.int .i64 ((m : Nat) : Int)) = _
        rw [HM.out, e9]
      · have := HV2.out
        rw [e9, swF_all HD.out HL.out] at this
        exact this
end Go.Proofs.Ytpebilhdlblgoaa
