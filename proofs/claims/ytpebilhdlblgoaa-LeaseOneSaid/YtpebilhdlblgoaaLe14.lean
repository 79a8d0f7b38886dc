/- Chapter 27, lease: the walk of LeaseOne. -/
import Derived.Test.YtpebilhdlblgoaaLe12
import Derived.Test.YtpebilhdlblgoaaLe13
import Derived.Test.YtpebilhdlblgoaaOrd7
import Derived.Test.YtpebilhdlblgoaaSto
namespace Go.Proofs.Ytpebilhdlblgoaa
open Go.RowKit

theorem LDeedArg.at {w : World} {A : Option Addr} {n c : Nat} {l : List LDeed} (h : LDeedArg w (.slice A n c) l) {k : Nat} (hk : k < l.length) : ∃ a, A = some a ∧ l.length ≤ c ∧ c ≤ maxLen ∧ ∀ w', Below w.heap.size w w' →
    w'.cell? (a.add (k * 5)) = some (.int .i64 l[k].kind) ∧ w'.cell? ⟨(a.add (k * 5)).block, (a.add (k * 5)).off + 1, none⟩ = some (.int .i64 l[k].ino) ∧ w'.cell? ⟨(a.add (k * 5)).block, (a.add (k * 5)).off + 2, none⟩ = some (.int .i64 l[k].cli) ∧ w'.cell? ⟨(a.add (k * 5)).block, (a.add (k * 5)).off + 3, none⟩ = some (.int .i64 l[k].now) ∧ w'.cell? ⟨(a.add (k * 5)).block, (a.add (k * 5)).off + 4, none⟩ = some (.int .i64 l[k].n) := by
  obtain ⟨a, cap, e, h1, h2, q0, q1, q2, q3, q4⟩ := h.cells hk
  cases e
  exact ⟨a, rfl, h1, h2, fun w' hb => ⟨(hb.cell (World.block_lt_of_cell? _ _ q0)).trans q0, (hb.cell (World.block_lt_of_cell? _ _ q1)).trans q1, (hb.cell (World.block_lt_of_cell? _ _ q2)).trans q2, (hb.cell (World.block_lt_of_cell? _ _ q3)).trans q3, (hb.cell (World.block_lt_of_cell? _ _ q4)).trans q4⟩⟩
/-- The two leases that are held one against the other, in their boxes. -/
structure LpS (wr : World) (a b : Lse) (d : Nat → Bool) (x : Nat → Value) (w : World) : Prop where
  fb : Below wr.heap.size wr w
  fa : d 8 = true → ∃ p, x 8 = .pointer (some ⟨p, 0, none⟩) ∧ wr.heap.size ≤ p ∧ w.heap[p]? = some (.cells (if d 10 = true then #[.int .i64 a.ino, .int .i64 a.cli, .int .i64 a.til, .int .i64 a.tok] else #[.int .i64 0, .int .i64 0, .int .i64 0, .int .i64 0]) 30 (0, 0))
  fc : d 9 = true → ∃ p, x 9 = .pointer (some ⟨p, 0, none⟩) ∧ wr.heap.size ≤ p ∧ w.heap[p]? = some (.cells (if d 11 = true then #[.int .i64 b.ino, .int .i64 b.cli, .int .i64 b.til, .int .i64 b.tok] else #[.int .i64 0, .int .i64 0, .int .i64 0, .int .i64 0]) 30 (0, 0))
  fne : d 8 = true → d 9 = true → x 8 ≠ x 9
theorem LpS.on {wr w : World} {a b : Lse} {d : Nat → Bool} {x : Nat → Value} (h : LpS wr a b d x w) {i : Nat} (v : Value) (h8 : 8 ≠ i) (h9 : 9 ≠ i) (h10 : 10 ≠ i) (h11 : 11 ≠ i) : LpS wr a b (fun j => if j = i then true else d j) (fun j => if j = i then v else x j) w := by
  refine ⟨h.fb, ?_, ?_, ?_⟩
  · simp only [if_neg h8, if_neg h10]
    exact h.fa
  · simp only [if_neg h9, if_neg h11]
    exact h.fc
  · simp only [if_neg h8, if_neg h9]
    exact h.fne
theorem LpS.al8 {wr w : World} {a b : Lse} {d : Nat → Bool} {x : Nat → Value} (h : LpS wr a b d x w) (h8 : d 8 = false) (h10 : d 10 = true → d 8 = true) : LpS wr a b (fun j => if j = 8 then true else d j) (fun j => if j = 8 then .pointer (some ⟨w.heap.size, 0, none⟩) else x j) (w.alloc (.cells #[.int .i64 0, .int .i64 0, .int .i64 0, .int .i64 0] 30)) := by
  have h10' : ¬ d 10 = true := fun e => by rw [h10 e] at h8; cases h8
  refine ⟨h.fb.alloc h.fb.size _, fun _ => ⟨w.heap.size, rfl, h.fb.size, ?_⟩, fun e => ?_, fun _ e => ?_⟩
  · simp only [if_neg (show ¬ (10 = 8) by decide), if_neg h10']
    exact obj_new _ _
  · simp only [if_neg (show ¬ (9 = 8) by decide), if_neg (show ¬ (11 = 8) by decide)] at e ⊢
    obtain ⟨p, h1, h2, h3⟩ := h.fc e
    exact ⟨p, h1, h2, obj_alloc h3 _⟩
  · simp only [if_neg (show ¬ (9 = 8) by decide), if_pos] at e ⊢
    obtain ⟨p, h1, h2, h3⟩ := h.fc e
    rw [h1]
    intro e2
    cases e2
    have := obj_lt h3
    omega
theorem LpS.al9 {wr w : World} {a b : Lse} {d : Nat → Bool} {x : Nat → Value} (h : LpS wr a b d x w) (h9 : d 9 = false) (h11 : d 11 = true → d 9 = true) : LpS wr a b (fun j => if j = 9 then true else d j) (fun j => if j = 9 then .pointer (some ⟨w.heap.size, 0, none⟩) else x j) (w.alloc (.cells #[.int .i64 0, .int .i64 0, .int .i64 0, .int .i64 0] 30)) := by
  have h11' : ¬ d 11 = true := fun e => by rw [h11 e] at h9; cases h9
  refine ⟨h.fb.alloc h.fb.size _, fun e => ?_, fun _ => ⟨w.heap.size, rfl, h.fb.size, ?_⟩, fun e _ => ?_⟩
  · simp only [if_neg (show ¬ (8 = 9) by decide), if_neg (show ¬ (10 = 9) by decide)] at e ⊢
    obtain ⟨p, h1, h2, h3⟩ := h.fa e
    exact ⟨p, h1, h2, obj_alloc h3 _⟩
  · simp only [if_neg (show ¬ (11 = 9) by decide), if_neg h11']
    exact obj_new _ _
  · simp only [if_neg (show ¬ (8 = 9) by decide), if_pos] at e ⊢
    obtain ⟨p, h1, h2, h3⟩ := h.fa e
    rw [h1]
    intro e2
    cases e2
    have := obj_lt h3
    omega
theorem LpS.st10 {wr w : World} {a b : Lse} {d : Nat → Bool} {x : Nat → Value} {p : Nat} (h : LpS wr a b d x w) (h8 : d 8 = true) (_h10 : d 10 = false) (hp : wr.heap.size ≤ p) (ho : w.heap[p]? = some (.cells #[.int .i64 0, .int .i64 0, .int .i64 0, .int .i64 0] 30 (0, 0))) (e8 : x 8 = .pointer (some ⟨p, 0, none⟩)) : LpS wr a b (fun j => if j = 10 then true else d j) (fun j => if j = 10 then undef else x j) (w.setRow p #[.int .i64 a.ino, .int .i64 a.cli, .int .i64 a.til, .int .i64 a.tok]) := by
  have hf := setRow_fr' w p #[.int .i64 a.ino, .int .i64 a.cli, .int .i64 a.til, .int .i64 a.tok]
  refine ⟨h.fb.trans (hf.below _ h.fb.size (fun j hj e => by omega)), fun _ => ⟨p, e8, hp, ?_⟩, fun e => ?_, ?_⟩
  · simp only [if_pos]
    exact setRow_at' ho
  · simp only [if_neg (show ¬ (9 = 10) by decide), if_neg (show ¬ (11 = 10) by decide)] at e ⊢
    obtain ⟨q, h1, h2, h3⟩ := h.fc e
    exact ⟨q, h1, h2, hf.obj h3 (fun e3 => by subst e3; exact h.fne h8 e (by rw [e8, h1]))⟩
  · simp only [if_neg (show ¬ (8 = 10) by decide), if_neg (show ¬ (9 = 10) by decide)]
    exact h.fne
theorem LpS.st11 {wr w : World} {a b : Lse} {d : Nat → Bool} {x : Nat → Value} {p : Nat} (h : LpS wr a b d x w) (h9 : d 9 = true) (_h11 : d 11 = false) (hp : wr.heap.size ≤ p) (ho : w.heap[p]? = some (.cells #[.int .i64 0, .int .i64 0, .int .i64 0, .int .i64 0] 30 (0, 0))) (e9 : x 9 = .pointer (some ⟨p, 0, none⟩)) : LpS wr a b (fun j => if j = 11 then true else d j) (fun j => if j = 11 then undef else x j) (w.setRow p #[.int .i64 b.ino, .int .i64 b.cli, .int .i64 b.til, .int .i64 b.tok]) := by
  have hf := setRow_fr' w p #[.int .i64 b.ino, .int .i64 b.cli, .int .i64 b.til, .int .i64 b.tok]
  refine ⟨h.fb.trans (hf.below _ h.fb.size (fun j hj e => by omega)), fun e => ?_, fun _ => ⟨p, e9, hp, ?_⟩, ?_⟩
  · simp only [if_neg (show ¬ (8 = 11) by decide), if_neg (show ¬ (10 = 11) by decide)] at e ⊢
    obtain ⟨q, h1, h2, h3⟩ := h.fa e
    exact ⟨q, h1, h2, hf.obj h3 (fun e3 => by subst e3; exact h.fne e h9 (by rw [e9, h1]))⟩
  · simp only [if_pos]
    exact setRow_at' ho
  · simp only [if_neg (show ¬ (8 = 11) by decide), if_neg (show ¬ (9 = 11) by decide)]
    exact h.fne
def lpA (r n ac i k g : Nat) (nw : Int) (u x : Nat → Value) : Act := ⟨#[u 0, .int .i64 nw, u 2, u 3, u 4, .pointer (some ⟨g, 0, none⟩), .slice (some ⟨r, 0, none⟩) n ac, u 7, u 8, u 9, u 10, u 11, .int .i64 (i : Int), .int .i64 (k : Int), x 8, x 9, u 16, u 17, u 18, u 19, u 20, u 21, u 22, u 23, u 24, u 25, u 26, u 27, u 28, u 29, u 30, u 31, u 32, u 33, u 34, u 35, u 36, u 37, u 38, u 39, u 40, u 41, u 42, u 43, u 44, u 45, u 46, u 47, u 48, u 49, u 50, u 51, u 52, u 53, u 54, u 55, u 56, u 57, u 58, u 59, u 60, u 61, u 62, u 63, u 64, u 65, u 66, u 67, u 68, u 69, u 70, u 71, u 72, u 73, u 74, u 75, u 76, u 77, u 78, u 79, u 80, u 81, u 82, u 83, u 84, u 85, u 86, u 87, u 88, u 89, u 90, u 91, u 92, u 93, u 94, u 95, u 96, u 97, u 98, u 99, u 100, u 101, u 102, u 103, u 104, u 105, u 106, u 107, u 108, u 109, u 110, u 111, u 112, u 113, u 114, u 115, u 116, u 117, u 118, u 119, u 120, u 121, u 122, u 123, u 124, u 125, u 126, u 127, u 128, u 129, u 130, u 131, u 132, u 133, u 134, x 0, x 1, x 2, x 3, x 4, x 5, x 6, x 7, u 143, u 144, u 145, u 146, u 147, u 148, u 149, u 150, u 151, u 152, u 153, u 154, u 155, u 156, u 157, u 158, u 159, u 160, u 161, u 162, u 163, u 164, u 165, u 166, u 167, u 168, u 169, u 170, u 171, u 172, u 173, u 174, u 175, u 176, u 177], []⟩
def lpV (r n ac i k : Nat) (a b : Lse) (qx : Nat) (qw : Value) : Prop :=
  match qx with
  | 0 => qw = .slice (some ⟨r, 0, none⟩) n ac
  | 1 => qw = .int .i64 (i : Int)
  | 2 => qw = .pointer (some ⟨r, i * 4, none⟩)
  | 3 => qw = .agg #[.int .i64 a.ino, .int .i64 a.cli, .int .i64 a.til, .int .i64 a.tok]
  | 4 => qw = .slice (some ⟨r, 0, none⟩) n ac
  | 5 => qw = .int .i64 (k : Int)
  | 6 => qw = .pointer (some ⟨r, k * 4, none⟩)
  | 7 => qw = .agg #[.int .i64 b.ino, .int .i64 b.cli, .int .i64 b.til, .int .i64 b.tok]
  | _ => True
def One1 (w : World) (g c ll : Nat) (wr : World) (av iv : Value) : Prop :=
  ∃ (k : Nat) (S : Les) (A : List Lse), iv = .int .i64 (k : Int) ∧ k ≤ ll ∧ kR.row wr w.heap.size av A ∧ A.length ≤ k ∧ LV wr g c S ∧ OneI S A k ∧ Below w.heap.size w wr
def One2 (w2 : World) (n : Nat) (wr : World) (iv : Value) : Prop := ∃ k : Nat, iv = .int .i64 (k : Int) ∧ k ≤ n ∧ Below w2.heap.size w2 wr
theorem below_drewN {B : Nat} {a w : World} (h : Below B a w) (n : Nat) : Below B a (w.drewN n) := ⟨h.os, h.tape, h.output, h.size, h.block⟩
set_option maxHeartbeats 16000000 in
set_option maxRecDepth 100000 in
theorem walk_leaseOne (v : Value) (l : List LDeed) (nw : Int) (w : World) (hv : LDeedArg w v l) (_hz : ∀ x ∈ l, x.wf) (_w1 : (Lit.int .i64 nw).wf = true) :
    Calls Try.prog 3 #[v, .int .i64 nw] w fun e w' => e = .returned (.bool true) ∧ Below w.heap.size w w' := by
  have AW := hide (awake27 sortsL)
  obtain ⟨LA, lcap, rfl⟩ := hv.slice
  have hlm := hv.len
  simp only [maxLen] at hlm
  have HV := hide hv
  obtain ⟨ll, hll⟩ : ∃ ll, ll = l.length := ⟨_, rfl⟩
  rw [← hll] at hlm HV ⊢
  have HLL := hide hll
  clear hv hll _hz _w1
  rcases Nat.lt_or_ge 80 ll with hbig | hbig
  · have hbig' : (80 : Int) < (ll : Int) := by omega
    go_enter Try.func3, Try.ntmps3
    go_wp2_with fail
    refine (AW.out _).mono ?_
    rintro e w2 ⟨rfl, hb⟩
    go_wp2
    go_ret
    exact ⟨rfl, hb⟩
  have hbig' : ¬ (80 : Int) < (ll : Int) := by omega
  go_enter Try.func3, Try.ntmps3
  go_wp2_with fail
  refine (lnew_any _).mono ?_
  rintro e w1 ⟨g, c, rfl, hv1, hb, hg, hc⟩
  have HGC := hide (show w.heap.size ≤ g ∧ w.heap.size ≤ c from ⟨hg, hc⟩)
  have HS := hide (show One1 w g c ll w1 (.slice none 0 0) (.int .i64 0) from ⟨0, les0, [], rfl, Nat.zero_le _, EK.row_nil _ _, Nat.le_refl _, hv1, oneI_nil, hb⟩)
  clear hv1 hb hg hc
  go_wp2_with fail
  go_loopw [6, 7] (fun av iv wr => One1 w g c ll wr av iv) (fun _ iv _ => ll - (intOf iv).toNat)
  case atStart => exact HS.out
  case round =>
    obtain ⟨k, S, A, rfl, hk, hrow, hAk, hlv, hone, hb⟩ := hrel
    obtain ⟨AA, ac, rfl⟩ := EK.row_slice hrow
    obtain ⟨n, hn⟩ : ∃ n, n = A.length := ⟨_, rfl⟩
    rw [← hn] at hrow hAk ⊢
    have HN := hide hn
    have HROW := hide hrow
    have HLV := hide hlv
    have HONE := hide hone
    have HB := hide hb
    have hne : ∀ q, (Value.slice AA n ac).ownBlock = some q → q ≠ g ∧ q ≠ c := fun q hq => by
      obtain ⟨-, -, cs, h7⟩ := EK.row_typed hrow hq
      refine ⟨fun e => ?_, fun e => ?_⟩
      · subst e
        have h6 := hlv.1
        rw [h6] at h7
        simp only [Option.some.injEq, Obj.cells.injEq] at h7
        exact absurd h7.2.1 (by decide)
      · subst e
        obtain ⟨es, ck, h6⟩ := MK.mp_obj hlv.2
        rw [h6] at h7
        cases h7
    have HNE := hide hne
    clear hrow hlv hone hne hn
    rcases Nat.lt_or_ge k ll with hkl | hkl
    · obtain ⟨a, rfl, hc1, hc2, hcell⟩ := HV.out.at (k := k) (by have := HLL.out; omega)
      simp only [maxLen] at hc2
      obtain ⟨q0, q1, q2, q3, q4⟩ := hcell wr hb
      obtain ⟨d, hde⟩ : ∃ d, d = l[k]'(by have := HLL.out; omega) := ⟨_, rfl⟩
      rw [← hde] at q0 q1 q2 q3 q4
      obtain ⟨kd, i, cl, nk, m⟩ := d
      simp only at q0 q1 q2 q3 q4
      have hcapi : ll ≤ lcap := by have := HLL.out; omega
      have hkli : (k : Int) < (ll : Int) := by omega
      clear hcell hde hc1 hb
      obtain ⟨W1, hW1⟩ : ∃ W, W = wr.alloc (.cells #[.int .i64 kd, .int .i64 i, .int .i64 cl, .int .i64 nk, .int .i64 m] 28) := ⟨_, rfl⟩
      have hb1 : Below wr.heap.size wr W1 := by rw [hW1]; exact (Below.refl _ _).alloc (Nat.le_refl _) _
      have hlv1 := HLV.out.below hb1
      have hrow1 := EK.row_below HROW.out hb1
      have hB1 := HB.out.trans (hb1.mono HB.out.size)
      by_cases hk0 : kd = 0
      · have HGR := hide (grant_gr hlv1 HONE.out.ok HONE.out.t0 (by have := HONE.out.tn; omega) i cl nk m)
        rw [hW1] at HGR
        subst hk0
        go_wp2_with fail
        refine HGR.out.mono ?_
        rintro e w2 ⟨y, ec, S', rfl, hgr, hlv2, hf2⟩
        have hrow2 : kR.row w2 w.heap.size (.slice AA n ac) A := EK.row_fr hrow1 (hW1 ▸ hf2) (fun q hq e => by have := HNE.out q hq; omega)
        have hB2 : Below w.heap.size w w2 := hB1.trans ((hW1 ▸ hf2 : Fr (fun j => j = g ∨ j = c) W1 w2).below _ hB1.size (fun j hj e => by have := HGC.out; omega))
        clear hW1 hb1 hlv1 hrow1 hB1 hf2 q0 q1 q2 q3 q4
        obtain ⟨W2, hW2⟩ : ∃ W, W = w2.alloc (.cells #[.int .i64 y.ino, .int .i64 y.cli, .int .i64 y.til, .int .i64 y.tok] 30) := ⟨_, rfl⟩
        obtain ⟨p, hp⟩ : ∃ p, p = w2.heap.size := ⟨_, rfl⟩
        have hb2 : Below w2.heap.size w2 W2 := by rw [hW2]; exact (Below.refl _ _).alloc (Nat.le_refl _) _
        have hoy : W2.heap[p]? = some (.cells #[.int .i64 y.ino, .int .i64 y.cli, .int .i64 y.til, .int .i64 y.tok] 30 (0, 0)) := by rw [hW2, hp]; exact obj_new _ _
        have hlv3 := hlv2.below hb2
        have hrow3 := EK.row_below hrow2 hb2
        have hB3 := hB2.trans (hb2.mono hB2.size)
        clear hlv2 hrow2 hB2 hb2
        by_cases he : ec = 0
        · have HOG := hide (HONE.out.grant hgr he)
          have HFT := hide (HONE.out.fits hgr he)
          subst he
          have HS2 := hide (show One2 W2 n W2 (.int .i64 0) from ⟨0, rfl, Nat.zero_le _, Below.refl _ _⟩)
          have HLV3 := hide hlv3
          have HROW3 := hide hrow3
          have HB3 := hide hB3
          have HOY := hide hoy
          have hni : (n : Int) ≤ 80 := by omega
          clear hgr hlv3 hrow3 hB3 hoy
          go_wp2_with fail
          rw [← hW2, ← hp]
          clear hW2 hp
          go_loopw [11] (fun jv wx => One2 W2 n wx jv) (fun jv _ => n - (intOf jv).toNat)
          case atStart => exact HS2.out
          case round =>
            obtain ⟨j, rfl, hj, hbx⟩ := hrel
            rcases Nat.lt_or_ge j n with hjn | hjn
            · have hjn' : j < A.length := by have := HN.out; omega
              have hrx := EK.row_below HROW3.out hbx
              rw [HN.out] at hrx
              obtain ⟨r, cap, e1, hz1, hz2, -, -, hcell⟩ := EK.row_cells hrx hjn'
              rw [← HN.out] at e1 hz1
              injection e1 with e1a e1b e1c
              subst e1a e1c
              simp only [maxLen] at hz2
              obtain ⟨b, hbe⟩ : ∃ b, b = A[j] := ⟨_, rfl⟩
              have r0 := hcell 0 (by decide)
              have r1 := hcell 1 (by decide)
              have r2 := hcell 2 (by decide)
              have r3 := hcell 3 (by decide)
              rw [← hbe] at r0 r1 r2 r3
              simp only [kR, List.getElem?_cons_zero, List.getElem?_cons_succ, Nat.add_zero] at r0 r1 r2 r3
              have hfit := HFT.out b (by rw [hbe]; exact List.getElem_mem _)
              have hox := obj_below HOY.out hbx
              have y0 := obj_cell hox 0
              have y1 := obj_cell hox 1
              have y3 := obj_cell hox 3
              simp only [List.getElem?_toArray, List.getElem?_cons_zero, List.getElem?_cons_succ] at y0 y1 y3
              have hji : (j : Int) < (n : Int) := by omega
              have HRES := hide (fun nq => show One2 W2 n (wr.drewN nq) (.int .i64 ((j : Int) + 1)) from ⟨j + 1, rfl, hjn, below_drewN hbx nq⟩)
              clear hrx hcell hbe hox hbx e1b
              obtain ⟨f1, f2⟩ := hfit
              by_cases g1 : y.tok < b.tok
              · have g1' : decide (y.tok < b.tok) = true := by simpa using g1
                have g2' : (b.ino == y.ino) = false := by
                  have : b.ino ≠ y.ino := fun e => f1 ⟨g1, e⟩
                  simpa using this
                have g3' : (y.tok == b.tok) = false := by
                  have : y.tok ≠ b.tok := by omega
                  simpa using this
                clear f1 f2 g1
                go_wp2_with fail
                go_quiet (fail)
                go_wp2_with fail
                exact ⟨HRES.out _, by simp only [intOf]; omega⟩
              · have g1' : decide (y.tok < b.tok) = false := by simpa using g1
                by_cases g3 : y.tok = b.tok
                · have g3' : (y.tok == b.tok) = true := by simpa using g3
                  have g4' : (y.ino != b.ino) = false := by simp [(f2 g3.symm).1]
                  have g5' : (y.cli != b.cli) = false := by simp [(f2 g3.symm).2]
                  clear f1 f2 g1 g3
                  go_wp2_with fail
                  go_quiet (fail)
                  go_wp2_with fail
                  exact ⟨HRES.out _, by simp only [intOf]; omega⟩
                · have g3' : (y.tok == b.tok) = false := by simpa using g3
                  clear f1 f2 g1 g3
                  go_wp2_with fail
                  go_quiet (fail)
                  go_wp2_with fail
                  exact ⟨HRES.out _, by simp only [intOf]; omega⟩
            · have hje : n = j := by omega
              subst hje
              have hox := obj_below HOY.out hbx
              have y0 := obj_cell hox 0
              have y1 := obj_cell hox 1
              have y2 := obj_cell hox 2
              have y3 := obj_cell hox 3
              simp only [List.getElem?_toArray, List.getElem?_cons_zero, List.getElem?_cons_succ] at y0 y1 y2 y3
              have hal := (Below.refl wr.heap.size wr).alloc (Nat.le_refl _) (.cells #[.int .i64 y.ino, .int .i64 y.cli, .int .i64 y.til, .int .i64 y.tok] 30)
              have hbx' := HB3.out.trans (hbx.mono HB3.out.size)
              have hb5 := hbx'.trans (hal.mono hbx'.size)
              have hrow5 := EK.row_below (EK.row_below HROW3.out hbx) hal
              have hlv5 := (HLV3.out.below hbx).below hal
              have hob := obj_new wr (.cells #[.int .i64 y.ino, .int .i64 y.cli, .int .i64 y.til, .int .i64 y.tok] 30)
              obtain ⟨v4, w4, happ, hrow4, hf4, -⟩ := EK.app hrow5 (EK.rd_one (K := kR) y hob) (by rw [← HN.out]; simp; omega) hb5.size 26
              have HAPP : Hid ((Builtin.append_ #[26, 26] 26 #[.slice AA n ac, .slice (some ⟨wr.heap.size, 0, none⟩) 1 1]).run Try.prog (wr.alloc (.cells #[.int .i64 y.ino, .int .i64 y.cli, .int .i64 y.til, .int .i64 y.tok] 30)) = .ok v4 w4) := hide happ
              have HRES := hide (show One1 w g c ll w4 v4 (.int .i64 ((k : Int) + 1)) from ⟨k + 1, S', A ++ [y], rfl, hkl, hrow4, by rw [List.length_append, ← HN.out]; simp; omega, ⟨hf4.obj hlv5.1 (fun e => (HNE.out g e).1 rfl), MK.mp_fr hlv5.2 hf4 (fun e => (HNE.out c e).2 rfl)⟩, HOG.out, hb5.trans (hf4.below _ hb5.size (fun q hq e => by
                have := (EK.row_typed HROW.out e).1
                omega))⟩)
              clear hox hal hbx' hb5 hrow5 hlv5 hob happ hrow4 hf4 hbx
              go_wp2_with (refine wpList_append_run rfl (.tmp 104) (.tmp 106) 26 26 rfl rfl rfl HAPP.out ?_)
              exact ⟨HRES.out, by simp only [intOf]; omega⟩
        · have hSS : S' = S := by
            rcases hgr with ⟨-, h⟩ | ⟨h, -⟩ | ⟨h, -⟩
            · exact h
            · exact absurd h he
            · exact absurd h he
          have he' : (ec != 0) = true := by simpa using he
          rw [hSS] at hlv3
          have HRES := hide (show One1 w g c ll W2 (.slice AA n ac) (.int .i64 ((k : Int) + 1)) from ⟨k + 1, S, A, rfl, hkl, hrow3, by rw [← HN.out]; omega, hlv3, HONE.out.more, hB3⟩)
          clear hgr hlv3 hrow3 hB3 hoy hp
          rw [hW2] at HRES
          clear hW2
          go_wp2_with fail
          exact ⟨HRES.out, by simp only [intOf]; omega⟩
      · have hk0' : (kd == 0) = false := by simpa using hk0
        by_cases hk1 : kd = 1
        · have hk1' : (kd == 1) = true := by simpa using hk1
          subst hk1
          have HDR := hide (drop_any hlv1 i cl m)
          rw [hW1] at HDR
          go_wp2_with fail
          refine HDR.out.mono ?_
          rintro e w2 ⟨rfl, hlv2, hf2⟩
          have hf2' : Fr (fun j => j = c) W1 w2 := hW1 ▸ hf2
          have HRES := hide (show One1 w g c ll w2 (.slice AA n ac) (.int .i64 ((k : Int) + 1)) from ⟨k + 1, _, A, rfl, hkl, EK.row_fr hrow1 hf2' (fun q hq e => by
            have := HNE.out q hq
            omega), by rw [← HN.out]; omega, hlv2, (HONE.out.drop i cl m).more, hB1.trans (hf2'.below _ hB1.size (fun j hj e => by have := HGC.out; omega))⟩)
          clear hW1 hb1 hlv1 hrow1 hB1 hf2 hf2' hlv2 q0 q1 q2 q3 q4
          go_wp2_with fail
          exact ⟨HRES.out, by simp only [intOf]; omega⟩
        · have hk1' : (kd == 1) = false := by simpa using hk1
          by_cases hk2 : kd = 2
          · have hk2' : (kd == 2) = true := by simpa using hk2
            subst hk2
            have HSW := hide (lsweep_any sortsL hlv1 HONE.out.ok nk)
            rw [hW1] at HSW
            go_wp2_with fail
            refine HSW.out.mono ?_
            rintro e w2 ⟨sl, -, rfl, hlv2, hf2⟩
            have hf2' : Fr (fun j => j = c) W1 w2 := hW1 ▸ hf2
            have HRES := hide (show One1 w g c ll w2 (.slice AA n ac) (.int .i64 ((k : Int) + 1)) from ⟨k + 1, _, A, rfl, hkl, EK.row_fr hrow1 hf2' (fun q hq e => by
              have := HNE.out q hq
              omega), by rw [← HN.out]; omega, hlv2, (HONE.out.sweep nk).more, hB1.trans (hf2'.below _ hB1.size (fun j hj e => by have := HGC.out; omega))⟩)
            clear hW1 hb1 hlv1 hrow1 hB1 hf2 hf2' hlv2 q0 q1 q2 q3 q4
            go_wp2_with fail
            exact ⟨HRES.out, by simp only [intOf]; omega⟩
          · have hk2' : (kd == 2) = false := by simpa using hk2
            have HRES := hide (show One1 w g c ll W1 (.slice AA n ac) (.int .i64 ((k : Int) + 1)) from ⟨k + 1, S, A, rfl, hkl, hrow1, by rw [← HN.out]; omega, hlv1, HONE.out.more, hB1⟩)
            rw [hW1] at HRES
            clear hW1 hb1 hlv1 hrow1 hB1
            go_wp2_with fail
            exact ⟨HRES.out, by simp only [intOf]; omega⟩
    · have hke : ll = k := by omega
      subst hke
      obtain ⟨wo, hwo⟩ : ∃ wo : World, wo = wr := ⟨_, rfl⟩
      subst hwo
      have HS3 := hide (show One2 wo n wo (.int .i64 0) from ⟨0, rfl, Nat.zero_le _, Below.refl _ _⟩)
      have hni : (n : Int) ≤ 80 := by omega
      clear hb
      go_wp2_with fail
      go_loopw [12] (fun iv wx => One2 wo n wx iv) (fun iv _ => n - (intOf iv).toNat)
      case atStart => exact HS3.out
      case round =>
        obtain ⟨i, rfl, hi, hbx⟩ := hrel
        rcases Nat.lt_or_ge i n with hin | hin
        · have HBX := hide hbx
          have hii : (i : Int) < (n : Int) := by omega
          have HS4 := hide (show One2 wo i wr (.int .i64 0) from ⟨0, rfl, Nat.zero_le _, hbx⟩)
          clear hbx
          go_wp2_with fail
          go_loopw [13] (fun kv wx => One2 wo i wx kv) (fun kv _ => i - (intOf kv).toNat)
          case atStart => exact HS4.out
          case round =>
            obtain ⟨k, rfl, hk, hbx⟩ := hrel
            rcases Nat.lt_or_ge k i with hki | hki
            · have hi' : i < A.length := by have := HN.out; omega
              have hk' : k < A.length := by have := HN.out; omega
              have hrx := EK.row_below HROW.out hbx
              rw [HN.out] at hrx
              obtain ⟨r, cap, e1, hz1, hz2, -, hrl, hcell⟩ := EK.row_cells hrx hi'
              obtain ⟨r', cap', e2, -, -, -, -, hcell2⟩ := EK.row_cells hrx hk'
              rw [← HN.out] at e1 hz1 e2
              rw [e1] at e2
              cases e2
              injection e1 with e1a e1b e1c
              subst e1a e1c
              simp only [maxLen] at hz2
              obtain ⟨a, hae⟩ : ∃ a, a = A[i] := ⟨_, rfl⟩
              obtain ⟨b, hbe⟩ : ∃ b, b = A[k] := ⟨_, rfl⟩
              rw [← hae] at hcell
              rw [← hbe] at hcell2
              have HA := hide (show wr.cell? ⟨r, i * 4, none⟩ = some (.int .i64 a.ino) ∧ wr.cell? ⟨r, i * 4 + 1, none⟩ = some (.int .i64 a.cli) ∧ wr.cell? ⟨r, i * 4 + 2, none⟩ = some (.int .i64 a.til) ∧ wr.cell? ⟨r, i * 4 + 3, none⟩ = some (.int .i64 a.tok) from ⟨hcell 0 (by decide), hcell 1 (by decide), hcell 2 (by decide), hcell 3 (by decide)⟩)
              have HBC := hide (show wr.cell? ⟨r, k * 4, none⟩ = some (.int .i64 b.ino) ∧ wr.cell? ⟨r, k * 4 + 1, none⟩ = some (.int .i64 b.cli) ∧ wr.cell? ⟨r, k * 4 + 2, none⟩ = some (.int .i64 b.til) ∧ wr.cell? ⟨r, k * 4 + 3, none⟩ = some (.int .i64 b.tok) from ⟨hcell2 0 (by decide), hcell2 1 (by decide), hcell2 2 (by decide), hcell2 3 (by decide)⟩)
              have HLVX := hide (HLV.out.below hbx)
              have HBX2 := hide hbx
              have hkii : (k : Int) < (i : Int) := by omega
              have hkni : (k : Int) < (n : Int) := by omega
              clear hrx hcell hcell2 hae hbe hbx e1b
              go_wp2_with fail
              refine wp_region_c (lpA r n ac i k g nw) (fun j => #[135, 136, 137, 138, 139, 140, 141, 142, 14, 15, 0, 0].getD j 0) (fun d x w' => LpS wr a b d x w') (fun qi qv => lpV r n ac i k a b qi qv) (by kernel_rfl) (by kernel_rfl) rfl ⟨(Below.refl _ _).drew, (fun e => by cases e), (fun e => by cases e), (fun e => by cases e)⟩ ?_ ?_ ?_
              · exact fun u => ⟨fun x v => rfl, fun x v => rfl, fun x v => rfl, fun x v => rfl, fun x v => rfl, fun x v => rfl, fun x v => rfl, fun x v => rfl, fun x v => rfl, fun x v => rfl, fun x v => rfl, fun x v => rfl, trivial⟩
              · refine fun u => ⟨?_, ?_, ?_, ?_, ?_, ?_, ?_, ?_, ?_, ?_, ?_, ?_, trivial⟩
                · intro d x w' hS hdi hv hp hcl K hK
                  have hS1 : LpS wr a b d x w' := hS
                  refine ⟨rfl, ?_⟩
                  unfold lpA at hK ⊢
                  go_wp2
                  exact hK (.slice (some ⟨r, 0, none⟩) n ac) w' (show LpS wr a b _ _ _ from hS1.on _ (by decide) (by decide) (by decide) (by decide)) rfl
                · intro d x w' hS hdi hv hp hcl K hK
                  have hS1 : LpS wr a b d x w' := hS
                  refine ⟨rfl, ?_⟩
                  unfold lpA at hK ⊢
                  go_wp2
                  exact hK (.int .i64 (i : Int)) w' (show LpS wr a b _ _ _ from hS1.on _ (by decide) (by decide) (by decide) (by decide)) rfl
                · intro d x w' hS hdi hv hp hcl K hK
                  have d0 : x 0 = .slice (some ⟨r, 0, none⟩) n ac := hv 0 (hp 0 (by kernel_rfl))
                  have d1 : x 1 = .int .i64 (i : Int) := hv 1 (hp 1 (by kernel_rfl))
                  have hS1 : LpS wr a b d x w' := hS
                  refine ⟨rfl, ?_⟩
                  unfold lpA at hK ⊢
                  simp only [d0, d1] at hK ⊢
                  go_wp2
                  exact hK (.pointer (some ⟨r, i * 4, none⟩)) w' (show LpS wr a b _ _ _ from hS1.on _ (by decide) (by decide) (by decide) (by decide)) rfl
                · intro d x w' hS hdi hv hp hcl K hK
                  have d0 : x 2 = .pointer (some ⟨r, i * 4, none⟩) := hv 2 (hp 2 (by kernel_rfl))
                  have hS1 : LpS wr a b d x w' := hS
                  have q0 := (hS1.fb.cell (p := ⟨r, i * 4, none⟩) hrl).trans HA.out.1
                  have q1 := (hS1.fb.cell (p := ⟨r, i * 4 + 1, none⟩) hrl).trans HA.out.2.1
                  have q2 := (hS1.fb.cell (p := ⟨r, i * 4 + 2, none⟩) hrl).trans HA.out.2.2.1
                  have q3 := (hS1.fb.cell (p := ⟨r, i * 4 + 3, none⟩) hrl).trans HA.out.2.2.2
                  refine ⟨rfl, ?_⟩
                  unfold lpA at hK ⊢
                  simp only [d0] at hK ⊢
                  go_wp2
                  exact hK (.agg #[.int .i64 a.ino, .int .i64 a.cli, .int .i64 a.til, .int .i64 a.tok]) w' (show LpS wr a b _ _ _ from hS1.on _ (by decide) (by decide) (by decide) (by decide)) rfl
                · intro d x w' hS hdi hv hp hcl K hK
                  have hS1 : LpS wr a b d x w' := hS
                  refine ⟨rfl, ?_⟩
                  unfold lpA at hK ⊢
                  go_wp2
                  exact hK (.slice (some ⟨r, 0, none⟩) n ac) w' (show LpS wr a b _ _ _ from hS1.on _ (by decide) (by decide) (by decide) (by decide)) rfl
                · intro d x w' hS hdi hv hp hcl K hK
                  have hS1 : LpS wr a b d x w' := hS
                  refine ⟨rfl, ?_⟩
                  unfold lpA at hK ⊢
                  go_wp2
                  exact hK (.int .i64 (k : Int)) w' (show LpS wr a b _ _ _ from hS1.on _ (by decide) (by decide) (by decide) (by decide)) rfl
                · intro d x w' hS hdi hv hp hcl K hK
                  have d0 : x 4 = .slice (some ⟨r, 0, none⟩) n ac := hv 4 (hp 4 (by kernel_rfl))
                  have d1 : x 5 = .int .i64 (k : Int) := hv 5 (hp 5 (by kernel_rfl))
                  have hS1 : LpS wr a b d x w' := hS
                  refine ⟨rfl, ?_⟩
                  unfold lpA at hK ⊢
                  simp only [d0, d1] at hK ⊢
                  go_wp2
                  exact hK (.pointer (some ⟨r, k * 4, none⟩)) w' (show LpS wr a b _ _ _ from hS1.on _ (by decide) (by decide) (by decide) (by decide)) rfl
                · intro d x w' hS hdi hv hp hcl K hK
                  have d0 : x 6 = .pointer (some ⟨r, k * 4, none⟩) := hv 6 (hp 6 (by kernel_rfl))
                  have hS1 : LpS wr a b d x w' := hS
                  have q0 := (hS1.fb.cell (p := ⟨r, k * 4, none⟩) hrl).trans HBC.out.1
                  have q1 := (hS1.fb.cell (p := ⟨r, k * 4 + 1, none⟩) hrl).trans HBC.out.2.1
                  have q2 := (hS1.fb.cell (p := ⟨r, k * 4 + 2, none⟩) hrl).trans HBC.out.2.2.1
                  have q3 := (hS1.fb.cell (p := ⟨r, k * 4 + 3, none⟩) hrl).trans HBC.out.2.2.2
                  refine ⟨rfl, ?_⟩
                  unfold lpA at hK ⊢
                  simp only [d0] at hK ⊢
                  go_wp2
                  exact hK (.agg #[.int .i64 b.ino, .int .i64 b.cli, .int .i64 b.til, .int .i64 b.tok]) w' (show LpS wr a b _ _ _ from hS1.on _ (by decide) (by decide) (by decide) (by decide)) rfl
                · intro d x w' hS hdi hv hp hcl K hK
                  have hS1 : LpS wr a b d x w' := hS
                  refine ⟨rfl, ?_⟩
                  unfold lpA at hK ⊢
                  go_wp2
                  exact hK _ _ (show LpS wr a b _ _ _ from hS1.al8 hdi (fun e => hcl 10 8 e (by kernel_rfl))) trivial
                · intro d x w' hS hdi hv hp hcl K hK
                  have hS1 : LpS wr a b d x w' := hS
                  refine ⟨rfl, ?_⟩
                  unfold lpA at hK ⊢
                  go_wp2
                  exact hK _ _ (show LpS wr a b _ _ _ from hS1.al9 hdi (fun e => hcl 11 9 e (by kernel_rfl))) trivial
                · intro d x w' hS hdi hv hp hcl K hK
                  have d1 : x 3 = .agg #[.int .i64 a.ino, .int .i64 a.cli, .int .i64 a.til, .int .i64 a.tok] := hv 3 (hp 3 (by kernel_rfl))
                  have hS1 : LpS wr a b d x w' := hS
                  have y8 : d 8 = true := hp 8 (by kernel_rfl)
                  obtain ⟨p, e8, hp8, ho8⟩ := hS1.fa y8
                  rw [if_neg (by rw [hdi]; decide)] at ho8
                  have hst := store_whole (P := Try.prog) (ty := 30) ho8 (cells := #[.int .i64 a.ino, .int .i64 a.cli, .int .i64 a.til, .int .i64 a.tok]) info30 rfl (by simp [Value.oneCell'])
                  refine ⟨rfl, ?_⟩
                  unfold lpA at hK ⊢
                  simp only [d1] at hK ⊢
                  exact wp_storev' 30 (.tmp 14) (.tmp 138) rfl e8 rfl hst (hK undef _ (show LpS wr a b _ _ _ from hS1.st10 y8 hdi hp8 ho8 e8) trivial)
                · intro d x w' hS hdi hv hp hcl K hK
                  have d1 : x 7 = .agg #[.int .i64 b.ino, .int .i64 b.cli, .int .i64 b.til, .int .i64 b.tok] := hv 7 (hp 7 (by kernel_rfl))
                  have hS1 : LpS wr a b d x w' := hS
                  have y9 : d 9 = true := hp 9 (by kernel_rfl)
                  obtain ⟨p, e9, hp9, ho9⟩ := hS1.fc y9
                  rw [if_neg (by rw [hdi]; decide)] at ho9
                  have hst := store_whole (P := Try.prog) (ty := 30) ho9 (cells := #[.int .i64 b.ino, .int .i64 b.cli, .int .i64 b.til, .int .i64 b.tok]) info30 rfl (by simp [Value.oneCell'])
                  refine ⟨rfl, ?_⟩
                  unfold lpA at hK ⊢
                  simp only [d1] at hK ⊢
                  exact wp_storev' 30 (.tmp 15) (.tmp 142) rfl e9 rfl hst (hK undef _ (show LpS wr a b _ _ _ from hS1.st11 y9 hdi hp9 ho9 e9) trivial)
              · intro u hu d x w5 hS hd hv
                have HU := hide hu
                have hS1 : LpS wr a b d x w5 := hS
                obtain ⟨p, ep, hpl, hop⟩ := hS1.fa (hd 8 (by decide))
                obtain ⟨q, eq_, hql, hoq⟩ := hS1.fc (hd 9 (by decide))
                rw [if_pos (hd 10 (by decide))] at hop
                rw [if_pos (hd 11 (by decide))] at hoq
                have hb5 := hS1.fb
                have HLV5 := hide (HLVX.out.below hb5)
                have HB5 := hide (HBX2.out.trans (hb5.mono HBX2.out.size))
                have a0 := obj_cell hop 0
                have a1 := obj_cell hop 1
                have a3 := obj_cell hop 3
                have b0 := obj_cell hoq 0
                have b1 := obj_cell hoq 1
                have b3 := obj_cell hoq 3
                simp only [List.getElem?_toArray, List.getElem?_cons_zero, List.getElem?_cons_succ] at a0 a1 a3 b0 b1 b3
                have HOQ := hide hoq
                clear hS hS1 hd hv hu hop hoq hb5 hpl hql
                unfold lpA
                rw [ep, eq_]
                clear ep eq_
                have HRES := hide (show One2 wo i w5 (.int .i64 ((k : Int) + 1)) from ⟨k + 1, rfl, hki, HB5.out⟩)
                by_cases g1 : a.ino = b.ino
                · have g1' : (a.ino == b.ino) = true := by simpa using g1
                  by_cases g2 : a.cli = b.cli
                  · have g2' : (a.cli != b.cli) = false := by simpa using g2
                    clear g1 g2
                    go_wp2_with fail
                    refine ⟨?_, ?_⟩
                    · rw [HU.out]
                      (repeat apply Exists.intro)
                      exact ⟨HRES.out, rfl⟩
                    · show i - (intOf (.int .i64 ((k : Int) + 1))).toNat < i - (intOf (.int .i64 (k : Int))).toNat
                      simp only [intOf]
                      omega
                  · have g2' : (a.cli != b.cli) = true := by simpa using g2
                    have HC1 := hide (check_any HLV5.out a.ino a.cli a.tok nw)
                    have HG := hide (show chkL S a.ino a.cli a.tok nw = true → chkL S b.ino b.cli b.tok nw = false from fun h => chk_one nw g1 g2 h)
                    clear g1 g2
                    go_wp2_with fail
                    refine HC1.out.mono ?_
                    rintro e w6 ⟨rfl, hb6⟩
                    have HLV6 := hide (HLV5.out.below hb6)
                    have HB6 := hide (HB5.out.trans (hb6.mono HB5.out.size))
                    have hoq6 := obj_below HOQ.out hb6
                    have b0 := obj_cell hoq6 0
                    have b1 := obj_cell hoq6 1
                    have b3 := obj_cell hoq6 3
                    simp only [List.getElem?_toArray, List.getElem?_cons_zero, List.getElem?_cons_succ] at b0 b1 b3
                    clear hb6 hoq6
                    have HRES6 := hide (show One2 wo i w6 (.int .i64 ((k : Int) + 1)) from ⟨k + 1, rfl, hki, HB6.out⟩)
                    rcases ec : chkL S a.ino a.cli a.tok nw with _ | _
                    · clear ec
                      go_wp2_with fail
                      refine ⟨?_, ?_⟩
                      · rw [HU.out]
                        (repeat apply Exists.intro)
                        exact ⟨HRES6.out, rfl⟩
                      · show i - (intOf (.int .i64 ((k : Int) + 1))).toNat < i - (intOf (.int .i64 (k : Int))).toNat
                        simp only [intOf]
                        omega
                    · have HC2 := hide (check_any HLV6.out b.ino b.cli b.tok nw)
                      rw [HG.out ec] at HC2
                      clear ec
                      go_wp2_with fail
                      refine HC2.out.mono ?_
                      rintro e w7 ⟨rfl, hb7⟩
                      have HRES7 := hide (show One2 wo i w7 (.int .i64 ((k : Int) + 1)) from ⟨k + 1, rfl, hki, HB6.out.trans (hb7.mono HB6.out.size)⟩)
                      clear hb7
                      go_wp2_with fail
                      refine ⟨?_, ?_⟩
                      · rw [HU.out]
                        (repeat apply Exists.intro)
                        exact ⟨HRES7.out, rfl⟩
                      · show i - (intOf (.int .i64 ((k : Int) + 1))).toNat < i - (intOf (.int .i64 (k : Int))).toNat
                        simp only [intOf]
                        omega
                · have g1' : (a.ino == b.ino) = false := by simpa using g1
                  clear g1
                  go_wp2_with fail
                  refine ⟨?_, ?_⟩
                  · rw [HU.out]
                    (repeat apply Exists.intro)
                    exact ⟨HRES.out, rfl⟩
                  · show i - (intOf (.int .i64 ((k : Int) + 1))).toNat < i - (intOf (.int .i64 (k : Int))).toNat
                    simp only [intOf]
                    omega
            · have hke : i = k := by omega
              subst hke
              have HRES := hide (show One2 wo n wr (.int .i64 ((i : Int) + 1)) from ⟨i + 1, rfl, hin, hbx⟩)
              clear hbx
              go_wp2_with fail
              exact ⟨HRES.out, by simp only [intOf]; omega⟩
        · have hie : n = i := by omega
          subst hie
          have HB9 := hide (HB.out.trans (hbx.mono HB.out.size))
          clear hbx
          go_wp2_with fail
          refine (AW.out _).mono ?_
          rintro e w9 ⟨rfl, hb9⟩
          have HBF := hide (HB9.out.trans (hb9.mono HB9.out.size))
          clear hb9
          go_wp2
          go_ret
          exact ⟨rfl, HBF.out⟩
end Go.Proofs.Ytpebilhdlblgoaa
