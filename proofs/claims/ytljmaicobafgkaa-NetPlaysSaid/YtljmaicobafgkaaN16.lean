/- A join of 3 texts of this claim: NtR3, NtR4, NtR6. Conditions: none of their own. -/
import Derived.Test.YtljmaicobafgkaaN15
section
/- Chapter 13, net: the reference: Double. -/
namespace Go.Proofs.Ytljmaicobafgkaa
open Go.RowKit

def rdA (bn : Nat) (i : Int) (u x : Nat → Value) : Act := ⟨#[u 0, .int .i64 i, .pointer (some ⟨bn, 0, none⟩), u 3, .pointer (some ⟨(bn + 1), 0, none⟩), .bool false, u 6, u 7, u 8, u 9, u 10, u 11, u 12, u 13, u 14, u 15, u 16, x 0, x 1, x 2, x 3, x 4, x 5, x 6, x 7, x 8, x 9, x 10, x 11, x 12, x 13, x 14, u 32], []⟩
def rdV (bn : Nat) (v0 : Value) (q : Rw) (i : Int) (n k r0 : Nat) (qx : Nat) (qw : Value) : Prop :=
  match qx with
  | 0 => qw = .pointer (some ⟨bn, 1, none⟩)
  | 1 => qw = v0
  | 3 => qw = .pointer (some ⟨bn, 1, none⟩)
  | 4 => qw = v0
  | 5 => qw = .int .i64 i
  | 6 => qw = .pointer (some ⟨bn, 1, none⟩)
  | 7 => qw = v0
  | 8 => qw = .int .i64 (n : Int)
  | 9 => qw = .int .i64 ((k : Nat) : Int)
  | 10 => qw = .pointer (some ⟨r0, k * 3, none⟩)
  | 11 => qw = .agg #[.int .i64 q.a, .int .i64 q.b, .string q.s]
  | 14 => qw = .pointer (some ⟨bn, 1, none⟩)
  | _ => True
set_option maxHeartbeats 4000000 in
set_option maxRecDepth 100000 in
theorem rdouble_no {w : World} {R : RN} {vl vc : Value} (hR : RS w R vl vc) (i : Int) (h : R.l.length = 0 ∨ 1024 ≤ R.l.length) (hb : R.l.length ≤ 1048576) :
    Calls Try.prog 78 #[.agg #[.int .i64 R.n, vl, vc], .int .i64 i] w fun e w' => e = .returned (.tuple #[.agg (rv R vl vc), .bool false]) ∧ Below w.heap.size w w' := by
  obtain ⟨A1, c1, A2, c2, e1, e2⟩ := hR.slices
  subst e1 e2
  have hB := ((Below.refl w.heap.size w).alloc (Nat.le_refl _) (.cells #[.int .i64 R.n, .slice A1 R.l.length c1, .slice A2 R.c.length c2] 120)).alloc (by simp) (.cells #[.int .i64 R.n, .slice A1 R.l.length c1, .slice A2 R.c.length c2] 120)
  have HB := hide hB
  obtain ⟨n, hn⟩ : ∃ n, n = R.l.length := ⟨_, rfl⟩
  rw [← hn] at h hb HB ⊢
  unfold rv
  clear hR hB hn
  rcases h with h | h
  · subst h
    go_enter Try.func78, Try.ntmps78
    go_wp2
    exact bodyPost_ret (res_ct rfl _ _ (w.heap.size + 1) 120 _ (0, 0) _ rfl (obj_new' _ _ _) Try.underlying120 rfl info120) rfl ⟨rfl, HB.out⟩
  · have h1 : ((n : Int) == 0) = false := by simp; omega
    have h2 : (1024 : Int) ≤ (n : Int) := by omega
    clear h
    go_enter Try.func78, Try.ntmps78
    go_wp2
    exact bodyPost_ret (res_ct rfl _ _ (w.heap.size + 1) 120 _ (0, 0) _ rfl (obj_new' _ _ _) Try.underlying120 rfl info120) rfl ⟨rfl, HB.out⟩
set_option maxHeartbeats 4000000 in
set_option maxRecDepth 100000 in
theorem rdouble_ok {w : World} {R : RN} {vl vc : Value} (hR : RS w R vl vc) (i : Int) (h0 : 0 < R.l.length) (h1 : R.l.length < 1024) (q : Rw) (hq : q = R.l[atI i R.l.length]'(atI_lt i h0)) :
    Calls Try.prog 78 #[.agg #[.int .i64 R.n, vl, vc], .int .i64 i] w fun e w' => ∃ vl', e = .returned (.tuple #[.agg (rv (nx1 R q) vl' vc), .bool true]) ∧ RS w' (nx1 R q) vl' vc ∧ Below w.heap.size w w' := by
  obtain ⟨A1, c1, A2, c2, e1, e2⟩ := hR.slices
  obtain ⟨r0, cap0, hv0, hc1, hc2, -, -, -⟩ := EK.row_cells hR.1 h0
  subst hv0
  obtain ⟨W, hW⟩ : ∃ W, W = (w.alloc (.cells #[.int .i64 R.n, (Value.slice (some ⟨r0, 0, none⟩) R.l.length cap0), vc] 120)).alloc (.cells #[.int .i64 0, .slice none 0 0, .slice none 0 0] 120) := ⟨_, rfl⟩
  have hb : Below w.heap.size w W := hW ▸ ((Below.refl w.heap.size w).alloc (Nat.le_refl _) (.cells #[.int .i64 R.n, (Value.slice (some ⟨r0, 0, none⟩) R.l.length cap0), vc] 120)).alloc (by simp) (.cells #[.int .i64 0, .slice none 0 0, .slice none 0 0] 120)
  have HB3 := hide hb
  have HN1 := hide (show W.heap[w.heap.size]? = some (.cells #[.int .i64 R.n, (Value.slice (some ⟨r0, 0, none⟩) R.l.length cap0), vc] 120 (0, 0)) from hW ▸ obj_alloc (obj_new w (.cells #[.int .i64 R.n, (Value.slice (some ⟨r0, 0, none⟩) R.l.length cap0), vc] 120)) (.cells #[.int .i64 0, .slice none 0 0, .slice none 0 0] 120))
  have HO3 := hide (show W.heap[w.heap.size + 1]? = some (.cells #[.int .i64 0, .slice none 0 0, .slice none 0 0] 120 (0, 0)) from hW ▸ obj_new' w (.cells #[.int .i64 R.n, (Value.slice (some ⟨r0, 0, none⟩) R.l.length cap0), vc] 120) (.cells #[.int .i64 0, .slice none 0 0, .slice none 0 0] 120))
  have HR := hide hR
  have HLN : Hid (R.l.length ≤ 1048576) := hide (by omega)
  have HLB : Hid (R.l.length ≤ 1073741824) := hide (by omega)
  have HPOS := hide h0
  have HAT := hide (atI_lt i h0)
  have HQ := hide hq
  have HVB : Hid ((Value.slice (some ⟨r0, 0, none⟩) R.l.length cap0).ownBlock ≠ some w.heap.size) := hide (fun e => absurd (EK.row_typed hR.1 e).2.1 (Nat.lt_irrefl _))
  have HVCB : Hid (∀ k, vc.ownBlock = some k → k < w.heap.size) := hide (fun k e => (EK.row_typed hR.2 e).2.1)
  have HR0 := hide (EK.row_belowB HR.out.1 HB3.out (fun k e => (EK.row_typed HR.out.1 e).2.1))
  have h0' : ((R.l.length : Int) == 0) = false := beq_eq_false_iff_ne.2 (by omega)
  have hl' : ¬ (1024 : Int) ≤ R.l.length := by omega
  have hat : atI i R.l.length < R.l.length := atI_lt i h0
  have hcm : cap0 ≤ 9223372036854775807 := by simp only [maxLen] at hc2; omega
  have HWE := hide hW
  have n1 := obj_cell HN1.out 1
  simp only [List.getElem?_toArray, List.getElem?_cons_zero, List.getElem?_cons_succ] at n1
  rw [HWE.out] at n1
  clear hR hb h1 e1 e2 hW hq
  go_enter Try.func78, Try.ntmps78
  go_wp2_with fail
  rw [← HWE.out]
  clear n1
  refine wp_region_c (rdA w.heap.size i) (fun j => #[17, 18, 19, 20, 21, 22, 23, 24, 25, 26, 27, 28, 29, 30, 31, 0].getD j 0) (fun d x w' => CpS W w.heap.size R.n (Value.slice (some ⟨r0, 0, none⟩) R.l.length cap0) vc R.l q (d 2) (d 12) (d 13) (d 15) (x 2) (x 12) (x 13) w') (fun qi qv => rdV w.heap.size (Value.slice (some ⟨r0, 0, none⟩) R.l.length cap0) q i R.l.length (atI i R.l.length) r0 qi qv) (by kernel_rfl) (by kernel_rfl) rfl ⟨(Fr.refl _ _).drew, by rw [if_neg (by decide)]; exact HN1.out, (fun e => by cases e), (fun e => by cases e), (fun e => by cases e), (fun e => by cases e)⟩ ?_ ?_ ?_
  · exact fun u => ⟨fun x v => rfl, fun x v => rfl, fun x v => rfl, fun x v => rfl, fun x v => rfl, fun x v => rfl, fun x v => rfl, fun x v => rfl, fun x v => rfl, fun x v => rfl, fun x v => rfl, fun x v => rfl, fun x v => rfl, fun x v => rfl, fun x v => rfl, fun x v => rfl, trivial⟩
  · refine fun u => ⟨?_, ?_, ?_, ?_, ?_, ?_, ?_, ?_, ?_, ?_, ?_, ?_, ?_, ?_, ?_, ?_, trivial⟩
    · intro d x w' hS hdi hv hp hcl K hK
      refine ⟨rfl, ?_⟩
      unfold rdA at hK ⊢
      go_wp2
      exact hK (.pointer (some ⟨w.heap.size, 1, none⟩)) w' hS rfl
    · intro d x w' hS hdi hv hp hcl K hK
      have d0 : x 0 = .pointer (some ⟨w.heap.size, 1, none⟩) := hv 0 (hp 0 (by kernel_rfl))
      have ne : d 15 = false := Bool.eq_false_iff.2 (fun hz => absurd (hcl 15 1 hz (by kernel_rfl)) (by rw [hdi]; decide))
      have hS1 : CpS W w.heap.size R.n (Value.slice (some ⟨r0, 0, none⟩) R.l.length cap0) vc R.l q (d 2) (d 12) (d 13) (d 15) (x 2) (x 12) (x 13) w' := hS
      have z := obj_cell hS1.2.1 1
      simp only [ne, List.getElem?_toArray, List.getElem?_cons_zero, List.getElem?_cons_succ, Bool.false_eq_true, if_false] at z
      refine ⟨rfl, ?_⟩
      unfold rdA at hK ⊢
      simp only [d0] at hK ⊢
      go_wp2
      exact hK ((Value.slice (some ⟨r0, 0, none⟩) R.l.length cap0)) w' hS rfl
    · intro d x w' hS hdi hv hp hcl K hK
      have d0 : x 1 = (Value.slice (some ⟨r0, 0, none⟩) R.l.length cap0) := hv 1 (hp 1 (by kernel_rfl))
      have na : d 13 = false := Bool.eq_false_iff.2 (fun hz => absurd (hcl 13 2 hz (by kernel_rfl)) (by rw [hdi]; decide))
      have hS1 : CpS W w.heap.size R.n (Value.slice (some ⟨r0, 0, none⟩) R.l.length cap0) vc R.l q (d 2) (d 12) (d 13) (d 15) (x 2) (x 12) (x 13) w' := hS
      rw [na] at hS1
      obtain ⟨v2, w2, hrun, hS2⟩ := hS1.copy HR0.out HVB.out HLN.out 117
      refine ⟨rfl, ?_⟩
      unfold rdA at hK ⊢
      simp only [d0] at hK ⊢
      refine wp_append_n (.const (.slice none 0 0)) (.tmp 18) 117 117 rfl rfl rfl hrun ?_
      exact hK v2 w2 (show CpS W w.heap.size R.n (Value.slice (some ⟨r0, 0, none⟩) R.l.length cap0) vc R.l q (true) (d 12) (d 13) (d 15) (v2) (x 12) (x 13) w2 by rw [na]; exact hS2) trivial
    · intro d x w' hS hdi hv hp hcl K hK
      refine ⟨rfl, ?_⟩
      unfold rdA at hK ⊢
      go_wp2
      exact hK (.pointer (some ⟨w.heap.size, 1, none⟩)) w' hS rfl
    · intro d x w' hS hdi hv hp hcl K hK
      have d0 : x 3 = .pointer (some ⟨w.heap.size, 1, none⟩) := hv 3 (hp 3 (by kernel_rfl))
      have ne : d 15 = false := Bool.eq_false_iff.2 (fun hz => absurd (hcl 15 4 hz (by kernel_rfl)) (by rw [hdi]; decide))
      have hS1 : CpS W w.heap.size R.n (Value.slice (some ⟨r0, 0, none⟩) R.l.length cap0) vc R.l q (d 2) (d 12) (d 13) (d 15) (x 2) (x 12) (x 13) w' := hS
      have z := obj_cell hS1.2.1 1
      simp only [ne, List.getElem?_toArray, List.getElem?_cons_zero, List.getElem?_cons_succ, Bool.false_eq_true, if_false] at z
      refine ⟨rfl, ?_⟩
      unfold rdA at hK ⊢
      simp only [d0] at hK ⊢
      go_wp2
      exact hK ((Value.slice (some ⟨r0, 0, none⟩) R.l.length cap0)) w' hS rfl
    · intro d x w' hS hdi hv hp hcl K hK
      refine ⟨rfl, ?_⟩
      unfold rdA at hK ⊢
      go_wp2
      exact hK (.int .i64 i) w' hS rfl
    · intro d x w' hS hdi hv hp hcl K hK
      refine ⟨rfl, ?_⟩
      unfold rdA at hK ⊢
      go_wp2
      exact hK (.pointer (some ⟨w.heap.size, 1, none⟩)) w' hS rfl
    · intro d x w' hS hdi hv hp hcl K hK
      have d0 : x 6 = .pointer (some ⟨w.heap.size, 1, none⟩) := hv 6 (hp 6 (by kernel_rfl))
      have ne : d 15 = false := Bool.eq_false_iff.2 (fun hz => absurd (hcl 15 7 hz (by kernel_rfl)) (by rw [hdi]; decide))
      have hS1 : CpS W w.heap.size R.n (Value.slice (some ⟨r0, 0, none⟩) R.l.length cap0) vc R.l q (d 2) (d 12) (d 13) (d 15) (x 2) (x 12) (x 13) w' := hS
      have z := obj_cell hS1.2.1 1
      simp only [ne, List.getElem?_toArray, List.getElem?_cons_zero, List.getElem?_cons_succ, Bool.false_eq_true, if_false] at z
      refine ⟨rfl, ?_⟩
      unfold rdA at hK ⊢
      simp only [d0] at hK ⊢
      go_wp2
      exact hK ((Value.slice (some ⟨r0, 0, none⟩) R.l.length cap0)) w' hS rfl
    · intro d x w' hS hdi hv hp hcl K hK
      have d0 : x 7 = (Value.slice (some ⟨r0, 0, none⟩) R.l.length cap0) := hv 7 (hp 7 (by kernel_rfl))
      refine ⟨rfl, ?_⟩
      unfold rdA at hK ⊢
      simp only [d0] at hK ⊢
      go_wp2
      exact hK (.int .i64 (R.l.length : Int)) w' hS rfl
    · intro d x w' hS hdi hv hp hcl K hK
      have d0 : x 5 = .int .i64 i := hv 5 (hp 5 (by kernel_rfl))
      have d1 : x 8 = .int .i64 (R.l.length : Int) := hv 8 (hp 8 (by kernel_rfl))
      refine ⟨rfl, ?_⟩
      unfold rdA at hK ⊢
      simp only [d0, d1] at hK ⊢
      go_wp2_with fail
      refine (rat_any i R.l.length _ HPOS.out HLB.out).mono ?_
      rintro e w2 ⟨rfl, rfl⟩
      exact hK _ _ hS rfl
    · intro d x w' hS hdi hv hp hcl K hK
      have d0 : x 4 = (Value.slice (some ⟨r0, 0, none⟩) R.l.length cap0) := hv 4 (hp 4 (by kernel_rfl))
      have d1 : x 9 = .int .i64 ((atI i R.l.length : Nat) : Int) := hv 9 (hp 9 (by kernel_rfl))
      refine ⟨rfl, ?_⟩
      unfold rdA at hK ⊢
      simp only [d0, d1] at hK ⊢
      go_wp2
      exact hK (.pointer (some ⟨r0, atI i R.l.length * 3, none⟩)) w' hS rfl
    · intro d x w' hS hdi hv hp hcl K hK
      have d0 : x 10 = .pointer (some ⟨r0, atI i R.l.length * 3, none⟩) := hv 10 (hp 10 (by kernel_rfl))
      have ne : d 15 = false := Bool.eq_false_iff.2 (fun hz => absurd (hcl 15 11 hz (by kernel_rfl)) (by rw [hdi]; decide))
      have hS1 : CpS W w.heap.size R.n (Value.slice (some ⟨r0, 0, none⟩) R.l.length cap0) vc R.l q (d 2) (d 12) (d 13) (d 15) (x 2) (x 12) (x 13) w' := hS
      have hr := hS1.orow HR0.out HVB.out
      obtain ⟨r9, cap9, hv9, hc1, hc2, _, _, hcell⟩ := EK.row_cells hr HAT.out
      cases hv9
      have y0 : w'.cell? ⟨r0, atI i R.l.length * 3, none⟩ = some (.int .i64 q.a) := by rw [HQ.out]; exact hcell 0 (by decide)
      have y1 : w'.cell? ⟨r0, atI i R.l.length * 3 + 1, none⟩ = some (.int .i64 q.b) := by rw [HQ.out]; exact hcell 1 (by decide)
      have y2 : w'.cell? ⟨r0, atI i R.l.length * 3 + 2, none⟩ = some (.string q.s) := by rw [HQ.out]; exact hcell 2 (by decide)
      clear hcell
      refine ⟨rfl, ?_⟩
      unfold rdA at hK ⊢
      simp only [d0] at hK ⊢
      go_wp2
      exact hK (.agg #[.int .i64 q.a, .int .i64 q.b, .string q.s]) w' hS rfl
    · intro d x w' hS hdi hv hp hcl K hK
      have d0 : x 11 = .agg #[.int .i64 q.a, .int .i64 q.b, .string q.s] := hv 11 (hp 11 (by kernel_rfl))
      have na : d 13 = false := Bool.eq_false_iff.2 (fun hz => absurd (hcl 13 12 hz (by kernel_rfl)) (by rw [hdi]; decide))
      have hS1 : CpS W w.heap.size R.n (Value.slice (some ⟨r0, 0, none⟩) R.l.length cap0) vc R.l q (d 2) (d 12) (d 13) (d 15) (x 2) (x 12) (x 13) w' := hS
      rw [na] at hS1
      refine ⟨rfl, ?_⟩
      unfold rdA at hK ⊢
      simp only [d0] at hK ⊢
      go_wp2
      exact hK (.slice (some ⟨w'.heap.size, 0, none⟩) 1 1) _ (show CpS W w.heap.size R.n (Value.slice (some ⟨r0, 0, none⟩) R.l.length cap0) vc R.l q (d 2) (true) (d 13) (d 15) (x 2) (.slice (some ⟨w'.heap.size, 0, none⟩) 1 1) (x 13) _ by rw [na]; exact hS1.build) trivial
    · intro d x w' hS hdi hv hp hcl K hK
      have yc : d 2 = true := hp 2 (by kernel_rfl)
      have ys : d 12 = true := hp 12 (by kernel_rfl)
      have ne : d 15 = false := Bool.eq_false_iff.2 (fun hz => absurd (hcl 15 13 hz (by kernel_rfl)) (by rw [hdi]; decide))
      have hS1 : CpS W w.heap.size R.n (Value.slice (some ⟨r0, 0, none⟩) R.l.length cap0) vc R.l q (d 2) (d 12) (d 13) (d 15) (x 2) (x 12) (x 13) w' := hS
      rw [hdi, yc, ys] at hS1
      obtain ⟨b, v3, w2, e1, hrun, hS2⟩ := hS1.app HLN.out 117
      have hS2' : CpS W w.heap.size R.n (Value.slice (some ⟨r0, 0, none⟩) R.l.length cap0) vc R.l q (true) (true) (true) (d 15) (x 2) (x 12) (v3) w2 := by rw [ne]; exact hS2
      refine ⟨rfl, ?_⟩
      unfold rdA at hK ⊢
      simp only [e1] at hK ⊢
      refine wp_append_n (.tmp 19) (.tmp 29) 117 117 rfl rfl rfl hrun ?_
      exact hK v3 w2 (show CpS W w.heap.size R.n (Value.slice (some ⟨r0, 0, none⟩) R.l.length cap0) vc R.l q (d 2) (d 12) (true) (d 15) (x 2) (.slice (some ⟨b, 0, none⟩) 1 1) (v3) w2 by rw [yc, ys]; rw [e1] at hS2'; exact hS2') trivial
    · intro d x w' hS hdi hv hp hcl K hK
      refine ⟨rfl, ?_⟩
      unfold rdA at hK ⊢
      go_wp2
      exact hK (.pointer (some ⟨w.heap.size, 1, none⟩)) w' hS rfl
    · intro d x w' hS hdi hv hp hcl K hK
      have d0 : x 14 = .pointer (some ⟨w.heap.size, 1, none⟩) := hv 14 (hp 14 (by kernel_rfl))
      have ya : d 13 = true := hp 13 (by kernel_rfl)
      have hS1 : CpS W w.heap.size R.n (Value.slice (some ⟨r0, 0, none⟩) R.l.length cap0) vc R.l q (d 2) (d 12) (d 13) (d 15) (x 2) (x 12) (x 13) w' := hS
      rw [hdi, ya] at hS1
      obtain ⟨A5, c5, e3⟩ := EK.row_slice (hS1.2.2.2.2.1 rfl)
      generalize (_ ++ _ : List Rw).length = m5 at e3
      have z := obj_cell hS1.2.1 1
      have tz := obj_frozen hS1.2.1 1
      simp only [List.getElem?_toArray, List.getElem?_cons_zero, List.getElem?_cons_succ] at z
      have hS2 := hS1.store
      refine ⟨rfl, ?_⟩
      unfold rdA at hK ⊢
      simp only [d0, e3] at hK ⊢
      go_wp2
      refine hK undef _ (show CpS W w.heap.size R.n (Value.slice (some ⟨r0, 0, none⟩) R.l.length cap0) vc R.l q (d 2) (d 12) (d 13) (true) (x 2) (x 12) (.slice A5 m5 c5) _ from ?_) trivial
      rw [ya]
      rw [e3] at hS2
      exact hS2
  · intro u hu d x w' hS hd hv
    have hda := hd 13 (by decide)
    have hde := hd 15 (by decide)
    have hS1 : CpS W w.heap.size R.n (Value.slice (some ⟨r0, 0, none⟩) R.l.length cap0) vc R.l q (d 2) (d 12) (d 13) (d 15) (x 2) (x 12) (x 13) w' := hS
    rw [hda, hde] at hS1
    have hrow := hS1.2.2.2.2.1 rfl
    have hN := hS1.2.1
    rw [if_pos rfl] at hN
    have hO := hS1.1.obj HO3.out (by omega)
    have hBw := HB3.out.trans (hS1.1.below _ HB3.out.size (fun j hj e => by omega))
    have hCr := EK.row_belowB HR.out.2 hBw HVCB.out
    obtain ⟨v3, hv3⟩ : ∃ v, v = x 13 := ⟨_, rfl⟩
    rw [← hv3] at hN hrow
    have hst := store_whole (P := Try.prog) (ty := 120) hO (cells := #[.int .i64 R.n, v3, vc]) info120 rfl (by
      obtain ⟨A5, c5, e5⟩ := EK.row_slice hrow
      obtain ⟨A6, c6, e6⟩ := EK.row_slice hCr
      rw [e5, e6]
      simp [Value.oneCell'])
    have HST := hide hst
    have F := setRow_fr' w' (w.heap.size + 1) #[.int .i64 R.n, v3, vc]
    have HFIN := hide (show RS (w'.setRow (w.heap.size + 1) #[.int .i64 R.n, v3, vc]) (nx1 R q) v3 vc ∧ Below w.heap.size w (w'.setRow (w.heap.size + 1) #[.int .i64 R.n, v3, vc]) from
      ⟨⟨EK.row_base (EK.row_fr hrow F (fun k hk e => k127_ne hrow hO (by decide) (e ▸ hk))) (Nat.zero_le _), EK.row_fr hCr F (fun k hk e => by have := HVCB.out k hk; omega)⟩, hBw.trans (F.below _ hBw.size (fun j hj e => by omega))⟩)
    have HOO := hide (setRow_at' (C' := #[.int .i64 R.n, v3, vc]) hO)
    have n0 := obj_cell hN 0
    have n1 := obj_cell hN 1
    have n2 := obj_cell hN 2
    simp only [List.getElem?_toArray, List.getElem?_cons_zero, List.getElem?_cons_succ] at n0 n1 n2
    clear hS hS1 hd hv hu hda hde hrow hN hO hBw hCr hst F hv3
    unfold rdA
    go_wp2_with (refine wpList_storev' rfl 120 (.tmp 4) (.tmp 32) rfl rfl rfl HST.out ?_)
    refine bodyPost_ret (res_ct rfl _ _ (w.heap.size + 1) 120 _ (0, 0) _ rfl HOO.out Try.underlying120 rfl info120) rfl ?_
    exact ⟨v3, rfl, HFIN.out⟩
end Go.Proofs.Ytljmaicobafgkaa
end
section
/- Chapter 13, net: the reference: Drop. -/
namespace Go.Proofs.Ytljmaicobafgkaa
open Go.RowKit

theorem wp_slice_n {P : Program} {w : World} {o : Oper} {a : Act} {K : Act → World → Prop} {Q : Exit → Act → World → Prop} (ty : TypeId) (x : Operand) (lo hi : Option Operand) (ho : o.op = .slice ty x lo hi none) {v u : Value} {l' h' : Option Value} (hx : a.eval x = v) (hl : lo.map a.eval = l') (hh : hi.map a.eval = h')
    (hrun : (Instr.sliceAt ty v l' h' none).run P w = .ok u w) (h : K (a.put o.dst u) w) : Oper.wp P o a w K Q := by
  unfold Oper.wp execOp
  simp only [ho, hx, hl, hh, Option.map_none, Sem.run_bind, hrun, Result.andThen_ok, Sem.run_pure]
  exact h
def DpS (w0 : World) (bn : Nat) (nn : Int) (vl vc : Value) (l : List Rw) (k : Nat) (dc da de : Bool) (xc xa : Value) (w : World) : Prop :=
  Fr (fun j => j = bn) w0 w ∧ w.heap[bn]? = some (.cells #[.int .i64 nn, if de = true then xa else vl, vc] 120 (0, 0)) ∧ (dc = true → da = false → K127.row w w0.heap.size xc (l.take k)) ∧
    (da = true → K127.row w w0.heap.size xa (l.take k ++ l.drop (k + 1))) ∧ (de = true → da = true)
section
variable {w0 w : World} {bn k : Nat} {nn : Int} {vl vc : Value} {l : List Rw} {dc da de : Bool} {xc xa : Value}
theorem DpS.orow (h : DpS w0 bn nn vl vc l k dc da de xc xa w) (hr : K127.row w0 0 vl l) (hb : vl.ownBlock ≠ some bn) : K127.row w 0 vl l :=
  EK.row_fr hr h.1 (fun _ hk e => hb (e ▸ hk))
theorem DpS.copy (h : DpS w0 bn nn vl vc l k dc false de xc xa w) (hr : K127.row w0 0 vl l) (hb : vl.ownBlock ≠ some bn) (hk : k < l.length) (hl : l.length ≤ 1048576) (ty : TypeId) :
    ∃ v2 w2, (Builtin.append_ #[117, 117] ty #[.slice none 0 0, partV 3 vl 0 k]).run Try.prog w = .ok v2 w2 ∧ DpS w0 bn nn vl vc l k true false de v2 xa w2 := by
  have hp := (EK.part (h.orow hr hb) (Nat.zero_le k) (by omega) (some (.int .i64 ((0 : Nat) : Int))) (some (.int .i64 (k : Int))) (.inr rfl) (.inr rfl)).2
  rw [List.drop_zero, Nat.sub_zero] at hp
  obtain ⟨v2, w2, hrun, hrow, hf, hv⟩ := EK.app (K := K127) (EK.row_nil w w0.heap.size) hp (by simp; omega) h.1.size ty
  refine ⟨v2, w2, hrun, h.1.trans hf (fun i _ e => by cases e), hf.obj h.2.1 (fun e => by cases e), fun _ _ => ?_, (fun e => by cases e), h.2.2.2.2⟩
  rwa [List.nil_append] at hrow
theorem DpS.app (h : DpS w0 bn nn vl vc l k true false de xc xa w) (hr : K127.row w0 0 vl l) (hb : vl.ownBlock ≠ some bn) (hk : k < l.length) (hl : l.length ≤ 1048576) (ty : TypeId) :
    ∃ v3 w2, (Builtin.append_ #[117, 117] ty #[xc, partV 3 vl (k + 1) l.length]).run Try.prog w = .ok v3 w2 ∧ DpS w0 bn nn vl vc l k true true false xc v3 w2 := by
  have hc := h.2.2.1 rfl rfl
  have hde : de = false := by
    rcases de with _ | _
    · rfl
    · exact absurd (h.2.2.2.2 rfl) (by decide)
  subst hde
  have hp := (EK.part (h.orow hr hb) (show k + 1 ≤ l.length by omega) (Nat.le_refl _) (some (.int .i64 ((k + 1 : Nat) : Int))) none (.inr rfl) (.inl ⟨rfl, rfl⟩)).2
  rw [List.take_of_length_le (by rw [List.length_drop]; omega)] at hp
  obtain ⟨v3, w2, hrun, hrow, hf, hv⟩ := EK.app hc hp (by simp; omega) h.1.size ty
  refine ⟨v3, w2, hrun, h.1.trans hf (fun i hi e => ?_), hf.obj h.2.1 (k127_ne hc h.2.1 (by decide)), (fun _ e => by cases e), fun _ => hrow, (fun e => by cases e)⟩
  have := (EK.row_typed hc e).1
  omega
theorem DpS.store (h : DpS w0 bn nn vl vc l k dc true false xc xa w) : DpS w0 bn nn vl vc l k dc true true xc xa (w.setCell ⟨bn, 1, none⟩ xa) := by
  have F := (Fr.refl (fun j => j = bn) w).setCell (p := ⟨bn, 1, none⟩) (fun _ => rfl) xa
  exact ⟨h.1.trans F (fun i _ e => e), obj_set h.2.1 1 _, (fun _ e => by cases e), fun _ => EK.row_fr (h.2.2.2.1 rfl) F (fun k hk e => k127_ne (h.2.2.2.1 rfl) h.2.1 (by decide) (e ▸ hk)), fun _ => rfl⟩
end
/-- Two structs, stored in either order. -/
def TwS (w0 : World) (b1 b2 : Nat) (t1 t2 : TypeId) (z1 c1 z2 c2 : Array Value) (e1 e2 : Bool) (w : World) : Prop :=
  Fr (fun j => j = b1 ∨ j = b2) w0 w ∧ w.heap[b1]? = some (.cells (if e1 = true then c1 else z1) t1 (0, 0)) ∧ w.heap[b2]? = some (.cells (if e2 = true then c2 else z2) t2 (0, 0))
section
variable {w0 w : World} {b1 b2 : Nat} {t1 t2 : TypeId} {z1 c1 z2 c2 : Array Value} {e1 e2 : Bool}
theorem TwS.one (h : TwS w0 b1 b2 t1 t2 z1 c1 z2 c2 e1 e2 w) (hne : b1 ≠ b2) : TwS w0 b1 b2 t1 t2 z1 c1 z2 c2 true e2 (w.setRow b1 c1) :=
  ⟨h.1.trans (setRow_fr' w b1 c1) (fun _ _ e => .inl e), setRow_at' h.2.1, (setRow_far' (Ne.symm hne)).trans h.2.2⟩
theorem TwS.two (h : TwS w0 b1 b2 t1 t2 z1 c1 z2 c2 e1 e2 w) (hne : b1 ≠ b2) : TwS w0 b1 b2 t1 t2 z1 c1 z2 c2 e1 true (w.setRow b2 c2) :=
  ⟨h.1.trans (setRow_fr' w b2 c2) (fun _ _ e => .inr e), (setRow_far' hne).trans h.2.1, setRow_at' h.2.2⟩
end
theorem res_cct13 {P : Program} {fn : Func} {p q u : Tmp} {ty ty2 : TypeId} (h : fn.results = #[.cell p ty, .cell q ty2, .tmp u]) (tmps : Array Value) (w : World) (g g2 : Nat) (t t2 : TypeId) (cs cs2 : Array Value) (fr fr2 : Nat × Nat) (d d2 : TypeDesc)
    (hp : tmps.getD p undef = .pointer (some ⟨g, 0, none⟩)) (hg : w.heap[g]? = some (.cells cs t fr)) (hu : P.underlying ty = some d) (hd : (match d with | .struct _ | .array _ _ => true | _ => false) = true) (hi : (P.info? ty).map (·.size) = some cs.size)
    (hp2 : tmps.getD q undef = .pointer (some ⟨g2, 0, none⟩)) (hg2 : w.heap[g2]? = some (.cells cs2 t2 fr2)) (hu2 : P.underlying ty2 = some d2) (hd2 : (match d2 with | .struct _ | .array _ _ => true | _ => false) = true) (hi2 : (P.info? ty2).map (·.size) = some cs2.size) :
    (results fn tmps).run P w = .ok (.tuple #[.agg cs, .agg cs2, tmps.getD u undef]) w := by
  have hp' : tmps[p]?.getD undef = .pointer (some ⟨g, 0, none⟩) := by simpa using hp
  have hp2' : tmps[q]?.getD undef = .pointer (some ⟨g2, 0, none⟩) := by simpa using hp2
  simp [results, h, hp', hp2', asAddr, run_loadVar_row w g t ty cs fr d hg hu hd hi, run_loadVar_row w g2 t2 ty2 cs2 fr2 d2 hg2 hu2 hd2 hi2]
def rpA (bn k : Nat) (u x : Nat → Value) : Act := ⟨#[u 0, u 1, .pointer (some ⟨bn, 0, none⟩), u 3, .pointer (some ⟨(bn + 1), 0, none⟩), .pointer (some ⟨(bn + 1 + 1), 0, none⟩), .bool false, .int .i64 (k : Int), .pointer (some ⟨(bn + 1 + 1 + 1), 0, none⟩), u 9, u 10, u 11, u 12, u 13, u 14, u 15, u 16, u 17, u 18, u 19, u 20, u 21, u 22, u 23, u 24, x 0, x 1, x 2, x 3, x 4, x 5, x 6, x 7, x 8, x 9, x 10, x 11, u 37, u 38], []⟩
def rpV (bn k : Nat) (v0 : Value) (n : Nat) (qx : Nat) (qw : Value) : Prop :=
  match qx with
  | 0 => qw = .pointer (some ⟨bn, 1, none⟩)
  | 1 => qw = v0
  | 2 => qw = .int .i64 ((k : Nat) : Int)
  | 3 => qw = partV 3 v0 0 (k)
  | 5 => qw = .pointer (some ⟨bn, 1, none⟩)
  | 6 => qw = v0
  | 7 => qw = .int .i64 ((k : Nat) : Int)
  | 8 => qw = .int .i64 (((k : Nat) : Int) + 1)
  | 9 => qw = partV 3 v0 (k + 1) n
  | 11 => qw = .pointer (some ⟨bn, 1, none⟩)
  | _ => True
def rpB (bn : Nat) (u x : Nat → Value) : Act := ⟨#[u 0, u 1, .pointer (some ⟨bn, 0, none⟩), u 3, .pointer (some ⟨(bn + 1), 0, none⟩), .pointer (some ⟨(bn + 1 + 1), 0, none⟩), x 4, u 7, .pointer (some ⟨(bn + 1 + 1 + 1), 0, none⟩), u 9, u 10, u 11, u 12, u 13, u 14, u 15, u 16, u 17, u 18, u 19, u 20, u 21, u 22, u 23, u 24, u 25, u 26, u 27, u 28, u 29, u 30, u 31, u 32, u 33, u 34, u 35, u 36, x 0, x 1], []⟩
def rpW (nn : Int) (v3 vc : Value) (q : Rw) (qx : Nat) (qw : Value) : Prop :=
  match qx with
  | 0 => qw = .agg #[.int .i64 nn, v3, vc]
  | 1 => qw = .agg #[.int .i64 q.a, .int .i64 q.b, .string q.s]
  | 4 => qw = .bool true
  | _ => True
def dpR (R : RN) (k : Nat) : RN := ⟨R.n, R.l.take k ++ R.l.drop (k + 1), R.c⟩
set_option maxHeartbeats 4000000 in
set_option maxRecDepth 100000 in
theorem rdrop13_no {w : World} {R : RN} {vl vc : Value} (hR : RS w R vl vc) (i : Int) (h : R.l.length = 0) :
    Calls Try.prog 77 #[.agg #[.int .i64 R.n, vl, vc], .int .i64 i] w fun e w' => e = .returned (.tuple #[.agg (rv R vl vc), .agg #[.int .i64 0, .int .i64 0, .string ⟨#[]⟩], .bool false]) ∧ Below w.heap.size w w' := by
  obtain ⟨A1, c1, A2, c2, e1, e2⟩ := hR.slices
  subst e1 e2
  have HB := hide ((((Below.refl w.heap.size w).alloc (Nat.le_refl _) (.cells #[.int .i64 R.n, .slice A1 R.l.length c1, .slice A2 R.c.length c2] 120)).alloc (by simp) (.cells #[.int .i64 R.n, .slice A1 R.l.length c1, .slice A2 R.c.length c2] 120)).alloc (by simp only [World.size_alloc]; omega) (.cells #[.int .i64 0, .int .i64 0, .string ⟨#[]⟩] 127))
  have HO := hide (obj_alloc (obj_new' w (.cells #[.int .i64 R.n, .slice A1 R.l.length c1, .slice A2 R.c.length c2] 120) (.cells #[.int .i64 R.n, .slice A1 R.l.length c1, .slice A2 R.c.length c2] 120)) (.cells #[.int .i64 0, .int .i64 0, .string ⟨#[]⟩] 127))
  have HP := hide (obj_new ((w.alloc (.cells #[.int .i64 R.n, .slice A1 R.l.length c1, .slice A2 R.c.length c2] 120)).alloc (.cells #[.int .i64 R.n, .slice A1 R.l.length c1, .slice A2 R.c.length c2] 120)) (.cells #[.int .i64 0, .int .i64 0, .string ⟨#[]⟩] 127))
  simp only [World.size_alloc] at HP
  unfold rv
  rw [h] at HB HO HP ⊢
  clear hR h
  go_enter Try.func77, Try.ntmps77
  go_wp2
  refine bodyPost_ret (res_cct13 rfl _ _ (w.heap.size + 1) (w.heap.size + 1 + 1) 120 127 _ _ (0, 0) (0, 0) _ _ rfl HO.out Try.underlying120 rfl info120 rfl HP.out Try.underlying127 rfl info127s) rfl ?_
  exact ⟨rfl, HB.out⟩
set_option maxHeartbeats 4000000 in
set_option maxRecDepth 100000 in
theorem rdrop13_ok {w : World} {R : RN} {vl vc : Value} (hR : RS w R vl vc) (i : Int) (h0 : 0 < R.l.length) (hbn : R.l.length ≤ 1048576) (q : Rw) (hq : q = R.l[atI i R.l.length]'(atI_lt i h0)) :
    Calls Try.prog 77 #[.agg #[.int .i64 R.n, vl, vc], .int .i64 i] w fun e w' => ∃ vl', e = .returned (.tuple #[.agg (rv (dpR R (atI i R.l.length)) vl' vc), .agg #[.int .i64 q.a, .int .i64 q.b, .string q.s], .bool true]) ∧ RS w' (dpR R (atI i R.l.length)) vl' vc ∧ Below w.heap.size w w' := by
  obtain ⟨r0, cap0, hv0, hc1, hc2, -, -, -⟩ := EK.row_cells hR.1 h0
  subst hv0
  obtain ⟨W, hW⟩ : ∃ W, W = (((w.alloc (.cells #[.int .i64 R.n, (Value.slice (some ⟨r0, 0, none⟩) R.l.length cap0), vc] 120)).alloc (.cells #[.int .i64 0, .slice none 0 0, .slice none 0 0] 120)).alloc (.cells #[.int .i64 0, .int .i64 0, .string ⟨#[]⟩] 127)) := ⟨_, rfl⟩
  have hb : Below w.heap.size w W := hW ▸ (((Below.refl w.heap.size w).alloc (Nat.le_refl _) (.cells #[.int .i64 R.n, (Value.slice (some ⟨r0, 0, none⟩) R.l.length cap0), vc] 120)).alloc (by simp) (.cells #[.int .i64 0, .slice none 0 0, .slice none 0 0] 120)).alloc (by simp only [World.size_alloc]; omega) (.cells #[.int .i64 0, .int .i64 0, .string ⟨#[]⟩] 127)
  have HN0 := hide (show W.heap[w.heap.size]? = some (.cells #[.int .i64 R.n, (Value.slice (some ⟨r0, 0, none⟩) R.l.length cap0), vc] 120 (0, 0)) from hW ▸ obj_alloc (obj_alloc (obj_new w (.cells #[.int .i64 R.n, (Value.slice (some ⟨r0, 0, none⟩) R.l.length cap0), vc] 120)) (.cells #[.int .i64 0, .slice none 0 0, .slice none 0 0] 120)) (.cells #[.int .i64 0, .int .i64 0, .string ⟨#[]⟩] 127))
  have HO0 := hide (show W.heap[w.heap.size + 1]? = some (.cells #[.int .i64 0, .slice none 0 0, .slice none 0 0] 120 (0, 0)) from hW ▸ obj_alloc (obj_new' w (.cells #[.int .i64 R.n, (Value.slice (some ⟨r0, 0, none⟩) R.l.length cap0), vc] 120) (.cells #[.int .i64 0, .slice none 0 0, .slice none 0 0] 120)) (.cells #[.int .i64 0, .int .i64 0, .string ⟨#[]⟩] 127))
  have HP0 := hide (show W.heap[w.heap.size + 1 + 1]? = some (.cells #[.int .i64 0, .int .i64 0, .string ⟨#[]⟩] 127 (0, 0)) from hW ▸ (by
    have := obj_new' (w.alloc (.cells #[.int .i64 R.n, (Value.slice (some ⟨r0, 0, none⟩) R.l.length cap0), vc] 120)) (.cells #[.int .i64 0, .slice none 0 0, .slice none 0 0] 120) (.cells #[.int .i64 0, .int .i64 0, .string ⟨#[]⟩] 127)
    rwa [World.size_alloc] at this))
  have HSZ := hide (show W.heap.size = w.heap.size + 1 + 1 + 1 by rw [hW]; simp only [World.size_alloc])
  have HRW := hide (hR.below hb)
  have HR := hide hR
  have HLN : Hid (R.l.length ≤ 1048576) := hide hbn
  have HPOS := hide h0
  have HAT := hide (atI_lt i h0)
  have HQ := hide hq
  have HVB : Hid ((Value.slice (some ⟨r0, 0, none⟩) R.l.length cap0).ownBlock ≠ some w.heap.size) := hide (fun e => absurd (EK.row_typed hR.1 e).2.1 (Nat.lt_irrefl _))
  have HVCB : Hid (∀ k, vc.ownBlock = some k → k < w.heap.size) := hide (fun k e => (EK.row_typed hR.2 e).2.1)
  have h0' : ((R.l.length : Int) == 0) = false := beq_eq_false_iff_ne.2 (by omega)
  have hat : atI i R.l.length < R.l.length := atI_lt i h0
  have hcm : cap0 ≤ 9223372036854775807 := by simp only [maxLen] at hc2; omega
  obtain ⟨r9, cap9, hv9, _, _, _, _, hcell⟩ := EK.row_cells HRW.out.1 hat
  cases hv9
  have y0 : W.cell? ⟨r0, atI i R.l.length * 3, none⟩ = some (.int .i64 q.a) := by rw [HQ.out]; exact hcell 0 (by decide)
  have y1 : W.cell? ⟨r0, atI i R.l.length * 3 + 1, none⟩ = some (.int .i64 q.b) := by rw [HQ.out]; exact hcell 1 (by decide)
  have y2 : W.cell? ⟨r0, atI i R.l.length * 3 + 2, none⟩ = some (.string q.s) := by rw [HQ.out]; exact hcell 2 (by decide)
  have HWE := hide hW
  have HB0 := hide hb
  rw [hW] at y0 y1 y2
  have hrat := fun wx => rat_any i R.l.length wx h0 (by omega)
  have HRAT := hide hrat
  clear hR hb hW hq hcell hrat
  go_enter Try.func77, Try.ntmps77
  go_wp2_with fail
  refine (HRAT.out _).mono ?_
  rintro e w1 ⟨rfl, rfl⟩
  go_wp2_with fail
  rw [← HWE.out]
  obtain ⟨W3, hW3⟩ : ∃ W3, W3 = W.alloc (.cells #[.int .i64 q.a, .int .i64 q.b, .string q.s] 127) := ⟨_, rfl⟩
  have hbl := (Below.refl W.heap.size W).alloc (Nat.le_refl _) (.cells #[.int .i64 q.a, .int .i64 q.b, .string q.s] 127)
  rw [← hW3] at hbl
  have HN1 := hide (obj_below HN0.out hbl)
  have HO1 := hide (obj_below HO0.out hbl)
  have HP1 := hide (obj_below HP0.out hbl)
  have HQ9 := hide (show W3.heap[w.heap.size + 1 + 1 + 1]? = some (.cells #[.int .i64 q.a, .int .i64 q.b, .string q.s] 127 (0, 0)) from hW3 ▸ HSZ.out ▸ obj_new W (.cells #[.int .i64 q.a, .int .i64 q.b, .string q.s] 127))
  have HR0 := hide (EK.row_below HRW.out.1 hbl)
  have HB3 := hide (HB0.out.trans (hbl.mono HB0.out.size))
  rw [← hW3]
  clear hW3 hbl y0 y1 y2 HWE HB0
  refine wp_region_c (rpA w.heap.size (atI i R.l.length)) (fun j => #[25, 26, 27, 28, 29, 30, 31, 32, 33, 34, 35, 36, 0].getD j 0) (fun d x w' => DpS W3 w.heap.size R.n (Value.slice (some ⟨r0, 0, none⟩) R.l.length cap0) vc R.l (atI i R.l.length) (d 4) (d 10) (d 12) (x 4) (x 10) w') (fun qi qv => rpV w.heap.size (atI i R.l.length) (Value.slice (some ⟨r0, 0, none⟩) R.l.length cap0) R.l.length qi qv) (by kernel_rfl) (by kernel_rfl) rfl ⟨(Fr.refl _ _).drew, by rw [if_neg (by decide)]; exact HN1.out, (fun e => by cases e), (fun e => by cases e), (fun e => by cases e)⟩ ?_ ?_ ?_
  · exact fun u => ⟨fun x v => rfl, fun x v => rfl, fun x v => rfl, fun x v => rfl, fun x v => rfl, fun x v => rfl, fun x v => rfl, fun x v => rfl, fun x v => rfl, fun x v => rfl, fun x v => rfl, fun x v => rfl, fun x v => rfl, trivial⟩
  · refine fun u => ⟨?_, ?_, ?_, ?_, ?_, ?_, ?_, ?_, ?_, ?_, ?_, ?_, ?_, trivial⟩
    · intro d x w' hS hdi hv hp hcl K hK
      refine ⟨rfl, ?_⟩
      unfold rpA at hK ⊢
      go_wp2
      exact hK (.pointer (some ⟨w.heap.size, 1, none⟩)) w' hS rfl
    · intro d x w' hS hdi hv hp hcl K hK
      have d0 : x 0 = .pointer (some ⟨w.heap.size, 1, none⟩) := hv 0 (hp 0 (by kernel_rfl))
      have ne : d 12 = false := Bool.eq_false_iff.2 (fun hz => absurd (hcl 12 1 hz (by kernel_rfl)) (by rw [hdi]; decide))
      have hS1 : DpS W3 w.heap.size R.n (Value.slice (some ⟨r0, 0, none⟩) R.l.length cap0) vc R.l (atI i R.l.length) (d 4) (d 10) (d 12) (x 4) (x 10) w' := hS
      have z := obj_cell hS1.2.1 1
      simp only [ne, List.getElem?_toArray, List.getElem?_cons_zero, List.getElem?_cons_succ, Bool.false_eq_true, if_false] at z
      refine ⟨rfl, ?_⟩
      unfold rpA at hK ⊢
      simp only [d0] at hK ⊢
      go_wp2
      exact hK ((Value.slice (some ⟨r0, 0, none⟩) R.l.length cap0)) w' hS rfl
    · intro d x w' hS hdi hv hp hcl K hK
      refine ⟨rfl, ?_⟩
      unfold rpA at hK ⊢
      go_wp2
      exact hK (.int .i64 ((atI i R.l.length : Nat) : Int)) w' hS rfl
    · intro d x w' hS hdi hv hp hcl K hK
      have d0 : x 1 = (Value.slice (some ⟨r0, 0, none⟩) R.l.length cap0) := hv 1 (hp 1 (by kernel_rfl))
      have d1 : x 2 = .int .i64 ((atI i R.l.length : Nat) : Int) := hv 2 (hp 2 (by kernel_rfl))
      have hS1 : DpS W3 w.heap.size R.n (Value.slice (some ⟨r0, 0, none⟩) R.l.length cap0) vc R.l (atI i R.l.length) (d 4) (d 10) (d 12) (x 4) (x 10) w' := hS
      have hrun := (EK.part (hS1.orow HR0.out HVB.out) (Nat.zero_le (atI i R.l.length)) (Nat.le_of_lt HAT.out) none (some (.int .i64 ((atI i R.l.length : Nat) : Int))) (.inl ⟨rfl, rfl⟩) (.inr rfl)).1
      refine ⟨rfl, ?_⟩
      unfold rpA at hK ⊢
      simp only [d0, d1] at hK ⊢
      refine wp_slice_n 117 (.tmp 26) none (some (.tmp 27)) rfl rfl rfl rfl hrun ?_
      exact hK _ w' hS rfl
    · intro d x w' hS hdi hv hp hcl K hK
      have d0 : x 3 = partV 3 (Value.slice (some ⟨r0, 0, none⟩) R.l.length cap0) 0 (atI i R.l.length) := hv 3 (hp 3 (by kernel_rfl))
      have na : d 10 = false := Bool.eq_false_iff.2 (fun hz => absurd (hcl 10 4 hz (by kernel_rfl)) (by rw [hdi]; decide))
      have hS1 : DpS W3 w.heap.size R.n (Value.slice (some ⟨r0, 0, none⟩) R.l.length cap0) vc R.l (atI i R.l.length) (d 4) (d 10) (d 12) (x 4) (x 10) w' := hS
      rw [na] at hS1
      obtain ⟨v2, w2, hrun, hS2⟩ := hS1.copy HR0.out HVB.out HAT.out HLN.out 117
      refine ⟨rfl, ?_⟩
      unfold rpA at hK ⊢
      simp only [d0] at hK ⊢
      refine wp_append_n (.const (.slice none 0 0)) (.tmp 28) 117 117 rfl rfl rfl hrun ?_
      exact hK v2 w2 (show DpS W3 w.heap.size R.n (Value.slice (some ⟨r0, 0, none⟩) R.l.length cap0) vc R.l (atI i R.l.length) (true) (d 10) (d 12) (v2) (x 10) w2 by rw [na]; exact hS2) trivial
    · intro d x w' hS hdi hv hp hcl K hK
      refine ⟨rfl, ?_⟩
      unfold rpA at hK ⊢
      go_wp2
      exact hK (.pointer (some ⟨w.heap.size, 1, none⟩)) w' hS rfl
    · intro d x w' hS hdi hv hp hcl K hK
      have d0 : x 5 = .pointer (some ⟨w.heap.size, 1, none⟩) := hv 5 (hp 5 (by kernel_rfl))
      have ne : d 12 = false := Bool.eq_false_iff.2 (fun hz => absurd (hcl 12 6 hz (by kernel_rfl)) (by rw [hdi]; decide))
      have hS1 : DpS W3 w.heap.size R.n (Value.slice (some ⟨r0, 0, none⟩) R.l.length cap0) vc R.l (atI i R.l.length) (d 4) (d 10) (d 12) (x 4) (x 10) w' := hS
      have z := obj_cell hS1.2.1 1
      simp only [ne, List.getElem?_toArray, List.getElem?_cons_zero, List.getElem?_cons_succ, Bool.false_eq_true, if_false] at z
      refine ⟨rfl, ?_⟩
      unfold rpA at hK ⊢
      simp only [d0] at hK ⊢
      go_wp2
      exact hK ((Value.slice (some ⟨r0, 0, none⟩) R.l.length cap0)) w' hS rfl
    · intro d x w' hS hdi hv hp hcl K hK
      refine ⟨rfl, ?_⟩
      unfold rpA at hK ⊢
      go_wp2
      exact hK (.int .i64 ((atI i R.l.length : Nat) : Int)) w' hS rfl
    · intro d x w' hS hdi hv hp hcl K hK
      have d0 : x 7 = .int .i64 ((atI i R.l.length : Nat) : Int) := hv 7 (hp 7 (by kernel_rfl))
      refine ⟨rfl, ?_⟩
      unfold rpA at hK ⊢
      simp only [d0] at hK ⊢
      go_wp2
      exact hK (.int .i64 (((atI i R.l.length : Nat) : Int) + 1)) w' hS rfl
    · intro d x w' hS hdi hv hp hcl K hK
      have d0 : x 6 = (Value.slice (some ⟨r0, 0, none⟩) R.l.length cap0) := hv 6 (hp 6 (by kernel_rfl))
      have d1 : x 8 = .int .i64 (((atI i R.l.length : Nat) : Int) + 1) := hv 8 (hp 8 (by kernel_rfl))
      have hS1 : DpS W3 w.heap.size R.n (Value.slice (some ⟨r0, 0, none⟩) R.l.length cap0) vc R.l (atI i R.l.length) (d 4) (d 10) (d 12) (x 4) (x 10) w' := hS
      have hrun := (EK.part (hS1.orow HR0.out HVB.out) (show atI i R.l.length + 1 ≤ R.l.length from HAT.out) (Nat.le_refl _) (some (.int .i64 ((atI i R.l.length + 1 : Nat) : Int))) none (.inr rfl) (.inl ⟨rfl, rfl⟩)).1
      refine ⟨rfl, ?_⟩
      unfold rpA at hK ⊢
      simp only [d0, d1] at hK ⊢
      refine wp_slice_n 117 (.tmp 31) (some (.tmp 33)) none rfl rfl rfl rfl hrun ?_
      exact hK _ w' hS rfl
    · intro d x w' hS hdi hv hp hcl K hK
      have d1 : x 9 = partV 3 (Value.slice (some ⟨r0, 0, none⟩) R.l.length cap0) (atI i R.l.length + 1) R.l.length := hv 9 (hp 9 (by kernel_rfl))
      have yc : d 4 = true := hp 4 (by kernel_rfl)
      have ne : d 12 = false := Bool.eq_false_iff.2 (fun hz => absurd (hcl 12 10 hz (by kernel_rfl)) (by rw [hdi]; decide))
      have hS1 : DpS W3 w.heap.size R.n (Value.slice (some ⟨r0, 0, none⟩) R.l.length cap0) vc R.l (atI i R.l.length) (d 4) (d 10) (d 12) (x 4) (x 10) w' := hS
      rw [hdi, yc] at hS1
      obtain ⟨v3, w2, hrun, hS2⟩ := hS1.app HR0.out HVB.out HAT.out HLN.out 117
      refine ⟨rfl, ?_⟩
      unfold rpA at hK ⊢
      simp only [d1] at hK ⊢
      refine wp_append_n (.tmp 29) (.tmp 34) 117 117 rfl rfl rfl hrun ?_
      exact hK v3 w2 (show DpS W3 w.heap.size R.n (Value.slice (some ⟨r0, 0, none⟩) R.l.length cap0) vc R.l (atI i R.l.length) (d 4) (true) (d 12) (x 4) (v3) w2 by rw [yc, ne]; exact hS2) trivial
    · intro d x w' hS hdi hv hp hcl K hK
      refine ⟨rfl, ?_⟩
      unfold rpA at hK ⊢
      go_wp2
      exact hK (.pointer (some ⟨w.heap.size, 1, none⟩)) w' hS rfl
    · intro d x w' hS hdi hv hp hcl K hK
      have d0 : x 11 = .pointer (some ⟨w.heap.size, 1, none⟩) := hv 11 (hp 11 (by kernel_rfl))
      have ya : d 10 = true := hp 10 (by kernel_rfl)
      have hS1 : DpS W3 w.heap.size R.n (Value.slice (some ⟨r0, 0, none⟩) R.l.length cap0) vc R.l (atI i R.l.length) (d 4) (d 10) (d 12) (x 4) (x 10) w' := hS
      rw [hdi, ya] at hS1
      obtain ⟨A5, c5, e3⟩ := EK.row_slice (hS1.2.2.2.1 rfl)
      generalize (_ ++ _ : List Rw).length = m5 at e3
      have z := obj_cell hS1.2.1 1
      have tz := obj_frozen hS1.2.1 1
      simp only [List.getElem?_toArray, List.getElem?_cons_zero, List.getElem?_cons_succ] at z
      have hS2 := hS1.store
      refine ⟨rfl, ?_⟩
      unfold rpA at hK ⊢
      simp only [d0, e3] at hK ⊢
      go_wp2
      refine hK undef _ (show DpS W3 w.heap.size R.n (Value.slice (some ⟨r0, 0, none⟩) R.l.length cap0) vc R.l (atI i R.l.length) (d 4) (d 10) (true) (x 4) (.slice A5 m5 c5) _ from ?_) trivial
      rw [ya]
      rw [e3] at hS2
      exact hS2
  · intro u hu d x wd hS hd hv
    have hda := hd 10 (by decide)
    have hde := hd 12 (by decide)
    have hS1 : DpS W3 w.heap.size R.n (Value.slice (some ⟨r0, 0, none⟩) R.l.length cap0) vc R.l (atI i R.l.length) (d 4) (d 10) (d 12) (x 4) (x 10) wd := hS
    rw [hda, hde] at hS1
    have hrow := hS1.2.2.2.1 rfl
    have hN := hS1.2.1
    rw [if_pos rfl] at hN
    have hO := hS1.1.obj HO1.out (by omega)
    have hP := hS1.1.obj HP1.out (by omega)
    have hQ := hS1.1.obj HQ9.out (by omega)
    have hBw := HB3.out.trans (hS1.1.below _ HB3.out.size (fun j hj e => by omega))
    have hCr := EK.row_belowB HR.out.2 hBw HVCB.out
    obtain ⟨v3, hv3⟩ : ∃ v, v = x 10 := ⟨_, rfl⟩
    rw [← hv3] at hN hrow
    have H1C : Hid ((#[.int .i64 R.n, v3, vc] : Array Value).all (·.oneCell') = true) := hide (by
      obtain ⟨A5, c5, e5⟩ := EK.row_slice hrow
      obtain ⟨A6, c6, e6⟩ := EK.row_slice hCr
      rw [e5, e6]
      simp [Value.oneCell'])
    have HN9 := hide hN
    have HO9 := hide hO
    have HP9 := hide hP
    have HQ9 := hide hQ
    have HROW := hide hrow
    have HBW := hide hBw
    have HCR := hide hCr
    have hbs := hBw.size
    have hsz := obj_lt hQ
    clear hS hS1 hd hv hu hda hde hrow hN hO hP hQ hBw hCr hv3
    unfold rpA
    go_wp2_with fail
    refine wp_region_c (rpB w.heap.size) (fun j => #[37, 38, 0, 0, 6].getD j 0) (fun d x w4 => TwS wd (w.heap.size + 1) (w.heap.size + 1 + 1) 120 127 #[.int .i64 0, .slice none 0 0, .slice none 0 0] #[.int .i64 R.n, v3, vc] #[.int .i64 0, .int .i64 0, .string ⟨#[]⟩] #[.int .i64 q.a, .int .i64 q.b, .string q.s] (d 2) (d 3) w4) (fun qi qv => rpW R.n v3 vc q qi qv) (by kernel_rfl) (by kernel_rfl) rfl ⟨(Fr.refl _ _).drew, by rw [if_neg (by decide)]; exact HO9.out, by rw [if_neg (by decide)]; exact HP9.out⟩ ?_ ?_ ?_
    · exact fun u => ⟨fun x v => rfl, fun x v => rfl, fun x v => rfl, fun x v => rfl, fun x v => rfl, trivial⟩
    · refine fun u => ⟨?_, ?_, ?_, ?_, ?_, trivial⟩
      · intro d x w' hS hdi hv hp hcl K hK
        have hS1 : TwS wd (w.heap.size + 1) (w.heap.size + 1 + 1) 120 127 #[.int .i64 0, .slice none 0 0, .slice none 0 0] #[.int .i64 R.n, v3, vc] #[.int .i64 0, .int .i64 0, .string ⟨#[]⟩] #[.int .i64 q.a, .int .i64 q.b, .string q.s] (d 2) (d 3) w' := hS
        have hN := hS1.1.obj HN9.out (by omega)
        have n0 := obj_cell hN 0
        have n1 := obj_cell hN 1
        have n2 := obj_cell hN 2
        simp only [List.getElem?_toArray, List.getElem?_cons_zero, List.getElem?_cons_succ] at n0 n1 n2
        refine ⟨rfl, ?_⟩
        unfold rpB at hK ⊢
        go_wp2
        exact hK (.agg #[.int .i64 R.n, v3, vc]) w' hS rfl
      · intro d x w' hS hdi hv hp hcl K hK
        have hS1 : TwS wd (w.heap.size + 1) (w.heap.size + 1 + 1) 120 127 #[.int .i64 0, .slice none 0 0, .slice none 0 0] #[.int .i64 R.n, v3, vc] #[.int .i64 0, .int .i64 0, .string ⟨#[]⟩] #[.int .i64 q.a, .int .i64 q.b, .string q.s] (d 2) (d 3) w' := hS
        have hQ := hS1.1.obj HQ9.out (by omega)
        have n0 := obj_cell hQ 0
        have n1 := obj_cell hQ 1
        have n2 := obj_cell hQ 2
        simp only [List.getElem?_toArray, List.getElem?_cons_zero, List.getElem?_cons_succ] at n0 n1 n2
        refine ⟨rfl, ?_⟩
        unfold rpB at hK ⊢
        go_wp2
        exact hK (.agg #[.int .i64 q.a, .int .i64 q.b, .string q.s]) w' hS rfl
      · intro d x w' hS hdi hv hp hcl K hK
        have d0 : x 0 = .agg #[.int .i64 R.n, v3, vc] := hv 0 (hp 0 (by kernel_rfl))
        have hS1 : TwS wd (w.heap.size + 1) (w.heap.size + 1 + 1) 120 127 #[.int .i64 0, .slice none 0 0, .slice none 0 0] #[.int .i64 R.n, v3, vc] #[.int .i64 0, .int .i64 0, .string ⟨#[]⟩] #[.int .i64 q.a, .int .i64 q.b, .string q.s] (d 2) (d 3) w' := hS
        rw [hdi] at hS1
        have hst := store_whole (P := Try.prog) (ty := 120) hS1.2.1 (cells := #[.int .i64 R.n, v3, vc]) info120 rfl H1C.out
        refine ⟨rfl, ?_⟩
        unfold rpB at hK ⊢
        simp only [d0] at hK ⊢
        exact wp_storev' 120 (.tmp 4) (.tmp 37) rfl rfl rfl hst (hK undef _ (show TwS _ _ _ _ _ _ _ _ _ true (d 3) _ from hS1.one (by omega)) trivial)
      · intro d x w' hS hdi hv hp hcl K hK
        have d0 : x 1 = .agg #[.int .i64 q.a, .int .i64 q.b, .string q.s] := hv 1 (hp 1 (by kernel_rfl))
        have hS1 : TwS wd (w.heap.size + 1) (w.heap.size + 1 + 1) 120 127 #[.int .i64 0, .slice none 0 0, .slice none 0 0] #[.int .i64 R.n, v3, vc] #[.int .i64 0, .int .i64 0, .string ⟨#[]⟩] #[.int .i64 q.a, .int .i64 q.b, .string q.s] (d 2) (d 3) w' := hS
        rw [hdi] at hS1
        have hst := store_whole (P := Try.prog) (ty := 127) hS1.2.2 (cells := #[.int .i64 q.a, .int .i64 q.b, .string q.s]) info127s rfl (by simp [Value.oneCell'])
        refine ⟨rfl, ?_⟩
        unfold rpB at hK ⊢
        simp only [d0] at hK ⊢
        exact wp_storev' 127 (.tmp 5) (.tmp 38) rfl rfl rfl hst (hK undef _ (show TwS _ _ _ _ _ _ _ _ _ (d 2) true _ from hS1.two (by omega)) trivial)
      · intro d x w' hS hdi hv hp hcl K hK
        refine ⟨rfl, ?_⟩
        unfold rpB at hK ⊢
        go_wp2
        exact hK (.bool true) w' hS rfl
    · intro u hu d x w4 hS hd hv
      have hd2 := hd 2 (by decide)
      have hd3 := hd 3 (by decide)
      have hS1 : TwS _ _ _ _ _ _ _ _ _ (d 2) (d 3) w4 := hS
      rw [hd2, hd3] at hS1
      have hO := hS1.2.1
      have hP := hS1.2.2
      rw [if_pos rfl] at hO hP
      have HO := hide hO
      have HP := hide hP
      have HFIN := hide (show RS w4 (dpR R (atI i R.l.length)) v3 vc ∧ Below w.heap.size w w4 from
        ⟨⟨EK.row_base (EK.row_fr HROW.out hS1.1 (fun k hk e => e.elim (fun e => k127_ne HROW.out HO9.out (by decide) (e ▸ hk)) (fun e => by
          subst e
          obtain ⟨h1, _⟩ := EK.row_typed HROW.out hk
          have := obj_lt HP1.out
          omega))) (Nat.zero_le _), EK.row_fr HCR.out hS1.1 (fun k hk e => by have := HVCB.out k hk; omega)⟩, HBW.out.trans (hS1.1.below _ HBW.out.size (fun j hj e => by omega))⟩)
      have h4 : x 4 = .bool true := hv 4 (by decide)
      clear hS hS1 hd hv hu hd2 hd3 hO hP
      unfold rpB
      rw [h4]
      go_wp2
      refine bodyPost_ret (res_cct13 rfl _ _ (w.heap.size + 1) (w.heap.size + 1 + 1) 120 127 _ _ (0, 0) (0, 0) _ _ rfl HO.out Try.underlying120 rfl info120 rfl HP.out Try.underlying127 rfl info127s) rfl ?_
      exact ⟨v3, rfl, HFIN.out⟩
end Go.Proofs.Ytljmaicobafgkaa
end
section
/- Chapter 13, net: the reference: Spoil, Cut. -/
namespace Go.Proofs.Ytljmaicobafgkaa
open Go.RowKit
def spQ (q : Rw) (a y : Int) : Rw := ⟨q.a, q.b, ⟨(spL q.s.data.toList a y).toArray⟩⟩
def spR (R : RN) (k : Nat) (hk : k < R.l.length) (a y : Int) : RN := ⟨R.n, R.l.set k (spQ R.l[k] a y), R.c⟩
theorem app_row {w : World} {vl : Value} {l : List Rw} (h : K127.row w 0 vl l) (hl : l.length ≤ 1048576) (ty : TypeId) :
    ∃ v2 w2, (Builtin.append_ #[117, 117] ty #[.slice none 0 0, vl]).run Try.prog w = .ok v2 w2 ∧ K127.row w2 w.heap.size v2 l ∧ Below w.heap.size w w2 := by
  obtain ⟨v2, w2, hrun, hrow, hf, hv⟩ := EK.app (K := K127) (EK.row_nil w w.heap.size) (EK.row_rd h) (by simp; omega) (Nat.le_refl _) ty
  refine ⟨v2, w2, hrun, ?_, hf.below _ (Nat.le_refl _) (fun k hk e => by cases e)⟩
  rwa [List.nil_append] at hrow
set_option maxHeartbeats 4000000 in
set_option maxRecDepth 100000 in
theorem rspoil_no {w : World} {R : RN} {vl vc : Value} (hR : RS w R vl vc) (i a y : Int) (h : R.l.length = 0) :
    Calls Try.prog 79 #[.agg #[.int .i64 R.n, vl, vc], .int .i64 i, .int .i64 a, .int .i64 y] w fun e w' => e = .returned (.tuple #[.agg (rv R vl vc), .bool false]) ∧ Below w.heap.size w w' := by
  obtain ⟨A1, c1, A2, c2, e1, e2⟩ := hR.slices
  subst e1 e2
  have HB := hide (((Below.refl w.heap.size w).alloc (Nat.le_refl _) (.cells #[.int .i64 R.n, .slice A1 R.l.length c1, .slice A2 R.c.length c2] 120)).alloc (by simp) (.cells #[.int .i64 R.n, .slice A1 R.l.length c1, .slice A2 R.c.length c2] 120))
  unfold rv
  rw [h] at HB ⊢
  clear hR h
  go_enter Try.func79, Try.ntmps79
  go_wp2
  exact bodyPost_ret (res_ct rfl _ _ (w.heap.size + 1) 120 _ (0, 0) _ rfl (obj_new' _ _ _) Try.underlying120 rfl info120) rfl ⟨rfl, HB.out⟩
set_option maxHeartbeats 8000000 in
set_option maxRecDepth 100000 in
theorem rspoil_ok {w : World} {R : RN} {vl vc : Value} (hR : RS w R vl vc) (i a y : Int) (h0 : 0 < R.l.length) (hbn : R.l.length ≤ 1048576) (q : Rw) (hq : q = R.l[atI i R.l.length]'(atI_lt i h0)) (hs0 : 0 < q.s.size) (hs : q.s.size ≤ 1073741824) :
    Calls Try.prog 79 #[.agg #[.int .i64 R.n, vl, vc], .int .i64 i, .int .i64 a, .int .i64 y] w fun e w' => ∃ vl', e = .returned (.tuple #[.agg (rv (spR R (atI i R.l.length) (atI_lt i h0) a y) vl' vc), .bool true]) ∧ RS w' (spR R (atI i R.l.length) (atI_lt i h0) a y) vl' vc ∧ Below w.heap.size w w' := by
  obtain ⟨r0, cap0, hv0, hc1, hc2, -, -, -⟩ := EK.row_cells hR.1 h0
  subst hv0
  obtain ⟨k, hk⟩ : ∃ k, k = atI i R.l.length := ⟨_, rfl⟩
  have hkl : k < R.l.length := hk ▸ atI_lt i h0
  have HSPR := hide (show spR R (atI i R.l.length) (atI_lt i h0) a y = ⟨R.n, R.l.set k (spQ q a y), R.c⟩ by rw [hq]; unfold spR; simp only [← hk])
  rw [HSPR.out]
  have hqk : q = R.l[k] := by rw [hq]; simp only [← hk]
  have hb := ((Below.refl w.heap.size w).alloc (Nat.le_refl _) (.cells #[.int .i64 R.n, (Value.slice (some ⟨r0, 0, none⟩) R.l.length cap0), vc] 120)).alloc (by simp) (.cells #[.int .i64 0, .slice none 0 0, .slice none 0 0] 120)
  obtain ⟨W, hW⟩ : ∃ W, W = (w.alloc (.cells #[.int .i64 R.n, (Value.slice (some ⟨r0, 0, none⟩) R.l.length cap0), vc] 120)).alloc (.cells #[.int .i64 0, .slice none 0 0, .slice none 0 0] 120) := ⟨_, rfl⟩
  rw [← hW] at hb
  have HN0 := hide (show W.heap[w.heap.size]? = some (.cells #[.int .i64 R.n, (Value.slice (some ⟨r0, 0, none⟩) R.l.length cap0), vc] 120 (0, 0)) from hW ▸ obj_alloc (obj_new w (.cells #[.int .i64 R.n, (Value.slice (some ⟨r0, 0, none⟩) R.l.length cap0), vc] 120)) (.cells #[.int .i64 0, .slice none 0 0, .slice none 0 0] 120))
  have HO0 := hide (show W.heap[w.heap.size + 1]? = some (.cells #[.int .i64 0, .slice none 0 0, .slice none 0 0] 120 (0, 0)) from hW ▸ obj_new' w (.cells #[.int .i64 R.n, (Value.slice (some ⟨r0, 0, none⟩) R.l.length cap0), vc] 120) (.cells #[.int .i64 0, .slice none 0 0, .slice none 0 0] 120))
  have HVCB : Hid (∀ k, vc.ownBlock = some k → k < w.heap.size) := hide (fun k e => (EK.row_typed hR.2 e).2.1)
  obtain ⟨v1, w1, hrun1, hrow1, hb1⟩ := app_row (hR.1 |> fun h => EK.row_below h hb) hbn 117
  obtain ⟨r1, cap1, hv1, hd1, hd2, hB1, hr1, hcell1⟩ := EK.row_cells hrow1 hkl
  subst hv1
  have y2 : w1.cell? ⟨r1, k * 3 + 2, none⟩ = some (.string q.s) := by rw [hqk]; exact hcell1 2 (by decide)
  have HRUN := hide hrun1
  have hsz : W.heap.size = w.heap.size + 1 + 1 := by rw [hW]; simp only [World.size_alloc]
  have HN1 := hide (obj_below HN0.out hb1)
  have HO1 := hide (obj_below HO0.out hb1)
  have HB1 := hide (hb.trans (hb1.mono hb.size))
  have HROW1 := hide hrow1
  have HCR1 := hide (EK.row_below (EK.row_below hR.2 hb) hb1)
  have hrat := fun wx => rat_any i R.l.length wx h0 (by omega)
  rw [← hk] at hrat
  have HRAT := hide hrat
  obtain ⟨n, hn⟩ : ∃ n, n = q.s.size := ⟨_, rfl⟩
  obtain ⟨m, hm⟩ : ∃ m, m = atI a n := ⟨_, rfl⟩
  have hrm := fun wx => rat_any a n wx (by omega) (by omega)
  rw [← hm] at hrm
  have HRM := hide hrm
  have hml : m < n := hm ▸ atI_lt a (by omega)
  have hcv := conv_to w1 q.s
  have HW := hide (buf_below w1 q.s (Nat.le_refl _))
  have HBF := hide (buf_new w1 q.s)
  have hml1 : m < q.s.data.toList.length := by rw [← size_list, ← hn]; exact hml
  have b4 := HBF.out.cell hml1
  have t4 := HBF.out.thawed hml1
  have hmd2 : m < q.s.data.size := by simpa using hml1
  have hz := spB_bits (q.s.data[m]'hmd2) y
  rw [Array.getElem_toList] at b4
  rw [← hn] at hcv
  generalize grownCap w1 n 0 5 = gc at hcv
  have h0' : ((R.l.length : Int) == 0) = false := beq_eq_false_iff_ne.2 (by omega)
  have hcm : cap1 ≤ 9223372036854775807 := by simp only [maxLen] at hd2; omega
  have HWE := hide hW
  have HK := hide hk
  have HM := hide hm
  have HN := hide hn
  have HQK := hide hqk
  have HSZ := hide hsz
  have hlr := hb1.size
  rw [hsz] at hlr hB1
  have n1 := obj_cell HN0.out 1
  simp only [List.getElem?_toArray, List.getElem?_cons_zero, List.getElem?_cons_succ] at n1
  rw [hW] at n1
  have hn0 : n ≤ 1073741824 := by omega
  clear hR hb hW hrow1 hrun1 hb1 hcell1 hrat hrm hk hm hn hqk hq hs0 hs hsz
  rw [HWE.out] at HRUN
  have hzz : ∃ z, z = spB (q.s.data[m]'hmd2) y := ⟨_, rfl⟩
  obtain ⟨z, hzz⟩ := hzz
  rw [← hzz] at hz
  have HZZ := hide hzz
  clear hzz
  go_enter Try.func79, Try.ntmps79
  go_wp2_with (at_builtin; refine wpList_append_run rfl (.const (.slice none 0 0)) (.tmp 20) 117 117 rfl rfl rfl HRUN.out ?_)
  refine (HRAT.out _).mono ?_
  rintro e wx ⟨rfl, rfl⟩
  go_wp2_with fail
  refine (HRM.out _).mono ?_
  rintro e wx ⟨rfl, rfl⟩
  go_upto_region 8 with fail
  obtain ⟨W3, hW3⟩ : ∃ W3, W3 = (Lib.bytesWorld w1 5 q.s).setCell ⟨w1.heap.size, m, none⟩ (.int .u8 (z.toNat : Int)) := ⟨_, rfl⟩
  rw [← hW3]
  have hb3 : Below w1.heap.size w1 W3 := by rw [hW3]; exact HW.out.setCell (Nat.le_refl _) _
  have hbf3 : Buf W3 w1.heap.size (q.s.data.toList.set m z) := by rw [hW3]; exact HBF.out.set z
  have hrow3 := EK.row_below HROW1.out hb3
  have HN3 := hide (obj_below HN1.out hb3)
  have HO3 := hide (obj_below HO1.out hb3)
  have HCR3 := hide (EK.row_below HCR1.out hb3)
  have HB3 := hide (HB1.out.trans (hb3.mono HB1.out.size))
  have hcl : (q.s.data.toList.set m z).length = n := by rw [List.length_set, ← size_list, HN.out]
  have hcv := hbf3.conv gc
  rw [hcl] at hcv
  have hst : (⟨(q.s.data.toList.set m z).toArray⟩ : ByteArray) = (spQ q a y).s := by
    have e1 := HM.out
    have e2 := HN.out
    unfold spQ
    congr 2
    show q.s.data.toList.set m z = spL q.s.data.toList a y
    rw [HZZ.out]
    unfold spL
    rw [← size_list, ← e2, ← e1]
    rw [List.getElem?_eq_getElem hml1, Option.getD_some, Array.getElem_toList]
  rw [hst] at hcv
  have tz := EK.row_frozen hrow3 (k * 3 + 2)
  obtain ⟨r8, c8, hv8, _, _, _, _, hcell3⟩ := EK.row_cells hrow3 hkl
  cases hv8
  have y3 : W3.cell? ⟨r1, k * 3 + 2, none⟩ = some (.string q.s) := by rw [HQK.out]; exact hcell3 2 (by decide)
  have HROW3 := hide hrow3
  clear hW3 hz b4 t4 y2 hbf3 hst hcl hrow3 n1 hb3 hcell3
  go_upto_region 9 with fail
  obtain ⟨W4, hW4⟩ : ∃ W4, W4 = W3.setCell ⟨r1, k * 3 + 2, none⟩ (.string (spQ q a y).s) := ⟨_, rfl⟩
  rw [← hW4]
  have hrow4 : K127.row W4 W.heap.size (.slice (some ⟨r1, 0, none⟩) R.l.length cap1) (R.l.set k (spQ q a y)) := by
    rw [hW4]
    exact EK.row_set (K := K127) HROW3.out hkl (by decide) (spQ q a y) _ (by rw [← HQK.out]; rfl)
  have F4 : Fr (fun j => j = r1) W3 W4 := by rw [hW4]; exact (Fr.refl (fun j => j = r1) W3).setCell (p := ⟨r1, k * 3 + 2, none⟩) (fun _ => rfl) _
  have hN4 := F4.obj HN3.out (by omega)
  have hO4 := F4.obj HO3.out (by omega)
  have n1 := obj_cell hN4 1
  have tn := obj_frozen hN4 1
  simp only [List.getElem?_toArray, List.getElem?_cons_zero, List.getElem?_cons_succ] at n1
  have HCR4 := hide (EK.row_fr HCR3.out F4 (fun k hk e => by have := HVCB.out k hk; omega))
  have HB4 := hide (HB3.out.trans (F4.below _ HB3.out.size (fun j hj e => by omega)))
  have HROW4 := hide hrow4
  have HN4 := hide hN4
  have HO4 := hide hO4
  clear hW4 hrow4 F4 hN4 hO4 tz hcv y3
  go_upto_region 10 with fail
  obtain ⟨W5, hW5⟩ : ∃ W5, W5 = W4.setCell ⟨w.heap.size, 1, none⟩ (.slice (some ⟨r1, 0, none⟩) R.l.length cap1) := ⟨_, rfl⟩
  rw [← hW5]
  have F5 : Fr (fun j => j = w.heap.size) W4 W5 := by rw [hW5]; exact (Fr.refl (fun j => j = w.heap.size) W4).setCell (p := ⟨w.heap.size, 1, none⟩) (fun _ => rfl) _
  have hN5 : W5.heap[w.heap.size]? = some (.cells #[.int .i64 R.n, .slice (some ⟨r1, 0, none⟩) R.l.length cap1, vc] 120 (0, 0)) := by rw [hW5]; exact obj_set HN4.out 1 _
  have hO5 := F5.obj HO4.out (by omega)
  have hrow5 := EK.row_fr HROW4.out F5 (fun j hj e => k127_ne HROW4.out HN4.out (by decide) (e ▸ hj))
  have hcr5 := EK.row_fr HCR4.out F5 (fun j hj e => by have := HVCB.out j hj; omega)
  have hB5 := HB4.out.trans (F5.below _ HB4.out.size (fun j hj e => by omega))
  have hst := store_whole (P := Try.prog) (ty := 120) hO5 (cells := #[.int .i64 R.n, .slice (some ⟨r1, 0, none⟩) R.l.length cap1, vc]) info120 rfl (by
    obtain ⟨A6, c6, e6⟩ := EK.row_slice hcr5
    rw [e6]
    simp [Value.oneCell'])
  have HST := hide hst
  have F6 := setRow_fr' W5 (w.heap.size + 1) #[.int .i64 R.n, .slice (some ⟨r1, 0, none⟩) R.l.length cap1, vc]
  have HOO := hide (setRow_at' (C' := #[.int .i64 R.n, .slice (some ⟨r1, 0, none⟩) R.l.length cap1, vc]) hO5)
  have HFIN := hide (show RS (W5.setRow (w.heap.size + 1) #[.int .i64 R.n, .slice (some ⟨r1, 0, none⟩) R.l.length cap1, vc]) ⟨R.n, R.l.set k (spQ q a y), R.c⟩ (.slice (some ⟨r1, 0, none⟩) R.l.length cap1) vc ∧ Below w.heap.size w (W5.setRow (w.heap.size + 1) #[.int .i64 R.n, .slice (some ⟨r1, 0, none⟩) R.l.length cap1, vc]) from
    ⟨⟨EK.row_base (EK.row_fr hrow5 F6 (fun j hj e => k127_ne hrow5 hO5 (by decide) (e ▸ hj))) (Nat.zero_le _), EK.row_fr hcr5 F6 (fun j hj e => by have := HVCB.out j hj; omega)⟩, hB5.trans (F6.below _ hB5.size (fun j hj e => by omega))⟩)
  have p0 := obj_cell hN5 0
  have p1 := obj_cell hN5 1
  have p2 := obj_cell hN5 2
  simp only [List.getElem?_toArray, List.getElem?_cons_zero, List.getElem?_cons_succ] at p0 p1 p2
  clear hW5 F5 F6 hst hN5 hO5 hrow5 hcr5 hB5 n1 tn
  go_wp2_with (refine wpList_storev' rfl 120 (.tmp 8) (.tmp 54) rfl rfl rfl HST.out ?_)
  refine bodyPost_ret (res_ct rfl _ _ (w.heap.size + 1) 120 _ (0, 0) _ rfl HOO.out Try.underlying120 rfl info120) rfl ?_
  exact ⟨_, rfl, HFIN.out⟩
end Go.Proofs.Ytljmaicobafgkaa
end
