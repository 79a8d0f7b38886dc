/- Chapter 14, calls: the contracts joined; the example. -/
import Derived.Test.YthcnoamgkkbkcaaCaD
import Derived.Test.YthcnoamgkkbkcaaCaO
namespace Go.Proofs.Ythcnoamgkkbkcaa
open Go.RowKit

/-- A node's calls, since a world. -/
def CR (w0 : World) (B g t p c cm : Nat) (S : CS) (W : World) : Prop := (∃ v x f, CV W B g t p c cm v S x f ∧ COk S x) ∧ Below B w0 W ∧ B ≤ w0.heap.size
section
variable {w0 W W' : World} {B g t p c cm : Nat} {S S' : CS} {x' : List Tm}
theorem CR.ok (h : CR w0 B g t p c cm S W) : ∃ x, COk S x := by
  obtain ⟨⟨v, x, f, h1, h2⟩, -⟩ := h
  exact ⟨x, h2⟩
theorem CR.below (h : CR w0 B g t p c cm S W) (hb : Below W.heap.size W W') : CR w0 B g t p c cm S W' := by
  obtain ⟨⟨v, x, f, h1, h2⟩, h3, h4⟩ := h
  exact ⟨⟨v, x, f, h1.below hb, h2⟩, h3.trans (hb.mono h1.bsz), h4⟩
theorem CA.cr (h : CR w0 B g t p c cm S W) (ha : CA W B g t p c cm S' x' W') : CR w0 B g t p c cm S' W' ∧ Kp W W' ∧ Below B W W' := by
  obtain ⟨-, h3, h4⟩ := h
  obtain ⟨⟨v', f', a1⟩, a2, a3, a4⟩ := ha
  exact ⟨⟨⟨v', x', f', a1, a2⟩, h3.trans a3, h4⟩, a4, a3⟩
theorem ccall_cr (h : CR w0 B g t p c cm S W) (dst now : Int) (body : ByteArray) :
    Calls Try.prog 17 #[.pointer (some ⟨g, 0, none⟩), .int .i64 dst, .string body, .int .i64 now] W fun e W' => e = .returned (.tuple #[.int .i64 (cCall S dst body now).2.1, .int .i64 (cCall S dst body now).2.2]) ∧ CR w0 B g t p c cm (cCall S dst body now).1 W' ∧ Kp W W' ∧ Below B W W' := by
  obtain ⟨v, x, f, h1, h2⟩ := h.1
  refine (ccall_any h1 h2 dst now body).mono ?_
  rintro e W' ⟨rfl, x', ha⟩
  exact ⟨rfl, ha.cr h⟩
theorem cdue_cr (h : CR w0 B g t p c cm S W) (now : Int) :
    Calls Try.prog 20 #[.pointer (some ⟨g, 0, none⟩), .int .i64 now] W fun e W' => ∃ ov x, COk S x ∧ e = .returned ov ∧ kM.row W' W.heap.size ov (cDue S x now).2 ∧ CR w0 B g t p c cm (cDue S x now).1 W' ∧ Kp W W' ∧ Below B W W' := by
  obtain ⟨v, x, f, h1, h2⟩ := h.1
  refine (cdue_any h1 h2 now).mono ?_
  rintro e W' ⟨ov, rfl, hr, x', ha⟩
  exact ⟨ov, x, h2, rfl, hr, ha.cr h⟩
theorem canswer_cr (h : CR w0 B g t p c cm S W) (m : Mg) :
    Calls Try.prog 22 #[.pointer (some ⟨g, 0, none⟩), .agg (mgC m)] W fun e W' => e = .returned (.bool (cAnswer S m).2) ∧ CR w0 B g t p c cm (cAnswer S m).1 W' ∧ Kp W W' ∧ Below B W W' := by
  obtain ⟨v, x, f, h1, h2⟩ := h.1
  refine (canswer_any h1 h2 m).mono ?_
  rintro e W' ⟨rfl, x', ha⟩
  exact ⟨rfl, ha.cr h⟩
theorem cforget_cr (h : CR w0 B g t p c cm S W) (id : Int) :
    Calls Try.prog 24 #[.pointer (some ⟨g, 0, none⟩), .int .i64 id] W fun e W' => e = .returned (.bool (cForget S id).2) ∧ CR w0 B g t p c cm (cForget S id).1 W' ∧ Kp W W' ∧ Below B W W' := by
  obtain ⟨v, x, f, h1, h2⟩ := h.1
  refine (cforget_any h1 h2 id).mono ?_
  rintro e W' ⟨rfl, ha⟩
  exact ⟨rfl, ha.cr h⟩
theorem cstate_cr (h : CR w0 B g t p c cm S W) (id : Int) :
    Calls Try.prog 25 #[.pointer (some ⟨g, 0, none⟩), .int .i64 id] W fun e W' => e = .returned (.tuple #[.int .i64 (cState S id).1, .string (cState S id).2]) ∧ CR w0 B g t p c cm S W' ∧ Below W.heap.size W W' := by
  obtain ⟨v, x, f, h1, h2⟩ := h.1
  refine (cstate_any h1 h2.ids id).mono ?_
  rintro e W' ⟨rfl, n, rfl⟩
  have hb : Below W.heap.size W (W.drewN n) := below_drewN (Below.refl _ _) n
  exact ⟨rfl, h.below hb, hb⟩
theorem copen_cr (h : CR w0 B g t p c cm S W) :
    Calls Try.prog 28 #[.pointer (some ⟨g, 0, none⟩)] W fun e W' => ∃ ov, e = .returned ov ∧ kI.row W' W.heap.size ov (opens S.L) ∧ CR w0 B g t p c cm S W' ∧ Below W.heap.size W W' := by
  obtain ⟨v, x, f, h1, h2⟩ := h.1
  refine (copen_any h1 h2).mono ?_
  rintro e W' ⟨ov, rfl, hr, hb⟩
  exact ⟨ov, rfl, hr, h.below hb, hb⟩
theorem cnew_cr (me first : Int) (w : World) : Calls Try.prog 14 #[.int .i64 me, .int .i64 first] w fun e w' => ∃ g t p c cm, e = .returned (.pointer (some ⟨g, 0, none⟩)) ∧ CR w w.heap.size g t p c cm (newC me first) w' := by
  refine (cnew_any me first w).mono ?_
  rintro e w' ⟨g, t, p, c, cm, v, f, rfl, h1, h2⟩
  exact ⟨g, t, p, c, cm, rfl, ⟨v, [], f, h1, newC_ok me first⟩, h2, Nat.le_refl _⟩
end
theorem COk.x1 {S : CS} {x : List Tm} (h : COk S x) {k : Ck} (hL : S.L = [k]) (ho : k.st = 1) : x = [k.tm] := by
  have h1 := h.per
  rw [hL] at h1
  have : tms [k] = [k.tm] := by simp [tms, Ck.opn, ho]
  rw [this] at h1
  exact List.perm_singleton.1 h1
def tA : ByteArray := ⟨#[97]⟩
def tB : ByteArray := ⟨#[98]⟩
def kq (sent : Nat) (due : Int) : Ck := ⟨7, 3, 1, sent, due, tA, ByteArray.empty⟩
def aS (sent : Nat) (due : Int) : CS := ⟨2, 8, [kq sent due]⟩
def aM : Mg := ⟨1, 2, 3, 7, tA⟩
theorem aw_due {sent : Nat} {due now : Int} {x : List Tm} (h : COk (aS sent due) x) : cDue (aS sent due) x now = cDue (aS sent due) [⟨7, due⟩] now := by rw [h.x1 (k := kq sent due) rfl rfl]; rfl
set_option maxHeartbeats 8000000 in
set_option maxRecDepth 100000 in
theorem awake14 (w : World) : Calls Try.prog 13 #[] w fun e w' => e = .returned (.bool true) ∧ Below w.heap.size w w' := by
  have HN := hide (cnew_cr 2 7 w)
  have e0 : newC 2 7 = ⟨2, 7, []⟩ := by kernel_rfl
  rw [e0] at HN
  have c1 : cCall ⟨2, 7, []⟩ 3 tA 0 = (aS 0 0, 7, 0) := by kernel_rfl
  have c2 : cCall (aS 0 0) 64 tA 0 = (aS 0 0, 0, 1) := by kernel_rfl
  have d1 : cDue (aS 0 0) [⟨7, 0⟩] 0 = (aS 1 4, [aM]) := by kernel_rfl
  have d2 : cDue (aS 1 4) [⟨7, 4⟩] 3 = (aS 1 4, []) := by kernel_rfl
  have d3 : cDue (aS 1 4) [⟨7, 4⟩] 4 = (aS 2 12, [aM]) := by kernel_rfl
  have d4 : cDue (aS 2 12) [⟨7, 12⟩] 12 = (aS 3 28, [aM]) := by kernel_rfl
  have a1 : cAnswer (aS 3 28) ⟨2, 4, 2, 7, ByteArray.empty⟩ = (aS 3 28, false) := by kernel_rfl
  have a2 : cAnswer (aS 3 28) ⟨2, 3, 2, 7, tB⟩ = (⟨2, 8, [⟨7, 3, 2, 3, 28, tA, tB⟩]⟩, true) := by kernel_rfl
  have s1 : cState ⟨2, 8, [⟨7, 3, 2, 3, 28, tA, tB⟩]⟩ 7 = (2, tB) := by kernel_rfl
  have f1 : cForget ⟨2, 8, [⟨7, 3, 2, 3, 28, tA, tB⟩]⟩ 7 = (⟨2, 8, []⟩, true) := by kernel_rfl
  have f2 : cForget ⟨2, 8, []⟩ 7 = (⟨2, 8, []⟩, false) := by kernel_rfl
  have H1 := hide (fun (W : World) (g t p c cm : Nat) (h : CR w w.heap.size g t p c cm ⟨2, 7, []⟩ W) => ccall_cr h 3 0 tA)
  have H2 := hide (fun (W : World) (g t p c cm : Nat) (h : CR w w.heap.size g t p c cm (aS 0 0) W) => ccall_cr h 64 0 tA)
  have H3 := hide (fun (W : World) (g t p c cm : Nat) (h : CR w w.heap.size g t p c cm (aS 0 0) W) => (cdue_cr h 0).mono (R' := fun e W' => ∃ ov, e = .returned ov ∧ kM.row W' W.heap.size ov [aM] ∧ CR w w.heap.size g t p c cm (aS 1 4) W') (fun e W' hh => by
    obtain ⟨ov, x, hx, rfl, h1, h2, -⟩ := hh
    rw [aw_due hx, d1] at h1 h2
    exact ⟨ov, rfl, h1, h2⟩))
  have H4 := hide (fun (W : World) (g t p c cm : Nat) (h : CR w w.heap.size g t p c cm (aS 1 4) W) => (cdue_cr h 3).mono (R' := fun e W' => ∃ ov, e = .returned ov ∧ kM.row W' W.heap.size ov [] ∧ CR w w.heap.size g t p c cm (aS 1 4) W' ∧ Kp W W' ∧ Below w.heap.size W W') (fun e W' hh => by
    obtain ⟨ov, x, hx, rfl, h1, h2, h3⟩ := hh
    rw [aw_due hx, d2] at h1 h2
    exact ⟨ov, rfl, h1, h2, h3⟩))
  have H5 := hide (fun (W : World) (g t p c cm : Nat) (h : CR w w.heap.size g t p c cm (aS 1 4) W) => (cdue_cr h 4).mono (R' := fun e W' => ∃ ov, e = .returned ov ∧ kM.row W' W.heap.size ov [aM] ∧ CR w w.heap.size g t p c cm (aS 2 12) W' ∧ Kp W W' ∧ Below w.heap.size W W') (fun e W' hh => by
    obtain ⟨ov, x, hx, rfl, h1, h2, h3⟩ := hh
    rw [aw_due hx, d3] at h1 h2
    exact ⟨ov, rfl, h1, h2, h3⟩))
  have H6 := hide (fun (W : World) (g t p c cm : Nat) (h : CR w w.heap.size g t p c cm (aS 2 12) W) => (cdue_cr h 12).mono (R' := fun e W' => ∃ ov, e = .returned ov ∧ kM.row W' W.heap.size ov [aM] ∧ CR w w.heap.size g t p c cm (aS 3 28) W' ∧ Kp W W' ∧ Below w.heap.size W W') (fun e W' hh => by
    obtain ⟨ov, x, hx, rfl, h1, h2, h3⟩ := hh
    rw [aw_due hx, d4] at h1 h2
    exact ⟨ov, rfl, h1, h2, h3⟩))
  have H7 := hide (fun (W : World) (g t p c cm : Nat) (h : CR w w.heap.size g t p c cm (aS 3 28) W) => canswer_cr h ⟨2, 4, 2, 7, ByteArray.empty⟩)
  have H8 := hide (fun (W : World) (g t p c cm : Nat) (h : CR w w.heap.size g t p c cm (aS 3 28) W) => canswer_cr h ⟨2, 3, 2, 7, tB⟩)
  have H9 := hide (fun (W : World) (g t p c cm : Nat) (h : CR w w.heap.size g t p c cm ⟨2, 8, [⟨7, 3, 2, 3, 28, tA, tB⟩]⟩ W) => cstate_cr h 7)
  have H10 := hide (fun (W : World) (g t p c cm : Nat) (h : CR w w.heap.size g t p c cm ⟨2, 8, [⟨7, 3, 2, 3, 28, tA, tB⟩]⟩ W) => cforget_cr h 7)
  have H11 := hide (fun (W : World) (g t p c cm : Nat) (h : CR w w.heap.size g t p c cm ⟨2, 8, []⟩ W) => cforget_cr h 7)
  simp only [c1] at H1
  simp only [c2] at H2
  simp only [a1] at H7
  simp only [a2] at H8
  simp only [s1] at H9
  simp only [f1] at H10
  simp only [f2] at H11
  clear e0 c1 c2 d1 d2 d3 d4 a1 a2 s1 f1 f2
  unfold tA tB mgC at *
  go_enter Try.func13, Try.ntmps13
  go_wp2_with fail
  refine HN.out.mono ?_
  rintro e w1 ⟨g, t, p, c, cm, rfl, h1⟩
  have HC := hide h1
  clear h1
  go_wp2_with fail
  refine (H1.out _ _ _ _ _ _ HC.out).mono ?_
  rintro e w2 ⟨rfl, h2, -⟩
  have HC2 := hide h2
  clear h2
  go_wp2_with fail
  refine (H2.out _ _ _ _ _ _ HC2.out).mono ?_
  rintro e w3 ⟨rfl, h3, -⟩
  have HC3 := hide h3
  clear h3
  go_wp2_with fail
  refine (H3.out _ _ _ _ _ _ HC3.out).mono ?_
  rintro e w4 ⟨o4, rfl, hr4, h4⟩
  obtain ⟨r, cap, er, hz1, hz2, -, -, hcell⟩ := EK.row_cells hr4 (k := 0) (by decide)
  simp only [List.length_cons, List.length_nil, Nat.zero_add] at er hz1
  subst er
  have HR4 := hide hr4
  have HC4 := hide h4
  clear h4 hr4 hcell
  go_wp2_with fail
  refine (H4.out _ _ _ _ _ _ HC4.out).mono ?_
  rintro e w5 ⟨o5, rfl, hr5, h5, hk5, hb5⟩
  obtain ⟨A5, c5, er⟩ := EK.row_slice hr5
  simp only [List.length_nil] at er
  subst er
  have HR5 := hide (row_kp HR4.out hb5 hk5 (by decide) (by decide) (by decide) (by decide))
  have HC5 := hide h5
  clear h5 hr5 hk5 hb5
  go_wp2_with fail
  refine (H5.out _ _ _ _ _ _ HC5.out).mono ?_
  rintro e w6 ⟨o6, rfl, hr6, h6, hk6, hb6⟩
  obtain ⟨A6, c6, er⟩ := EK.row_slice hr6
  simp only [List.length_cons, List.length_nil, Nat.zero_add] at er
  subst er
  have HR6 := hide (row_kp HR5.out hb6 hk6 (by decide) (by decide) (by decide) (by decide))
  have HC6 := hide h6
  clear h6 hr6 hk6 hb6
  go_wp2_with fail
  refine (H6.out _ _ _ _ _ _ HC6.out).mono ?_
  rintro e w7 ⟨o7, rfl, hr7, h7, hk7, hb7⟩
  obtain ⟨A7, c7, er⟩ := EK.row_slice hr7
  simp only [List.length_cons, List.length_nil, Nat.zero_add] at er
  subst er
  have HR7 := hide (row_kp HR6.out hb7 hk7 (by decide) (by decide) (by decide) (by decide))
  have HC7 := hide h7
  clear h7 hr7 hk7 hb7
  go_wp2_with fail
  refine (H7.out _ _ _ _ _ _ HC7.out).mono ?_
  rintro e w8 ⟨rfl, h8, hk8, hb8⟩
  have HR8 := hide (row_kp HR7.out hb8 hk8 (by decide) (by decide) (by decide) (by decide))
  have HC8 := hide h8
  clear h8 hk8 hb8
  go_wp2_with fail
  refine (H8.out _ _ _ _ _ _ HC8.out).mono ?_
  rintro e w9 ⟨rfl, h9, hk9, hb9⟩
  have HR9 := hide (row_kp HR8.out hb9 hk9 (by decide) (by decide) (by decide) (by decide))
  have HC9 := hide h9
  clear h9 hk9 hb9
  go_wp2_with fail
  refine (H9.out _ _ _ _ _ _ HC9.out).mono ?_
  rintro e w10 ⟨rfl, h10, hb10⟩
  have hr10 := EK.row_below HR9.out hb10
  have HC10 := hide h10
  obtain ⟨r2, cap2, e1, -, hz3, -, -, hcell⟩ := EK.row_cells hr10 (k := 0) (by decide)
  injection e1 with e1a e1b e1c
  subst e1c
  injection e1a with e1a
  injection e1a with e1a
  subst e1a
  have q0 := hcell 0 (by decide)
  have q1 := hcell 1 (by decide)
  have q2 := hcell 2 (by decide)
  have q3 := hcell 3 (by decide)
  have q4 := hcell 4 (by decide)
  simp only [kM, aM, List.getElem_cons_zero, List.getElem?_cons_zero, List.getElem?_cons_succ, Nat.add_zero, Nat.zero_mul, Nat.zero_add] at q0 q1 q2 q3 q4
  unfold tA at q4
  clear h10 hb10 hcell hr10 e1b
  go_wp2_with fail
  refine (H10.out _ _ _ _ _ _ HC10.out).mono ?_
  rintro e w11 ⟨rfl, h11, -⟩
  have HC11 := hide h11
  clear h11 q0 q1 q2 q3 q4
  go_wp2_with fail
  refine (H11.out _ _ _ _ _ _ HC11.out).mono ?_
  rintro e w12 ⟨rfl, h12, -⟩
  have HB := hide h12.2.1
  clear h12
  go_wp2
  go_ret
  exact ⟨rfl, HB.out⟩
end Go.Proofs.Ythcnoamgkkbkcaa
