/- A join of 1 texts of this claim: NtW4. Conditions: none of their own. -/
import Derived.Test.YtljmaicobafgkaaN18
import Derived.Test.YtljmaicobafgkaaN11
section
/- Chapter 13, net: the walk of NetPlays. -/
namespace Go.Proofs.Ytljmaicobafgkaa
open Go.RowKit

theorem RS.keep {w w' : World} {B : Nat} {R : RN} {vl vc : Value} (h : RS w R vl vc) (hk : KeepN B w w') : RS w' R vl vc := by
  refine ⟨⟨h.1.1, ?_⟩, ⟨h.2.1, ?_⟩⟩
  · rcases h.1.2 with h2 | ⟨g, cap, cur, h1, h2, h3, h4⟩
    · exact .inl h2
    · exact .inr ⟨g, cap, cur, h1, h2, hk.obj h3 (by decide) (by decide), h4⟩
  · rcases h.2.2 with h2 | ⟨g, cap, cur, h1, h2, h3, h4⟩
    · exact .inl h2
    · exact .inr ⟨g, cap, cur, h1, h2, hk.obj h3 (by decide) (by decide), h4⟩
theorem RS.set {w : World} {R : RN} {vl vc : Value} (h : RS w R vl vc) {b : Nat} {cs cs' : Array Value} {t : TypeId} {f : Nat × Nat} (hb : w.heap[b]? = some (.cells cs t f)) (h1 : t ≠ 127) (h2 : t ≠ 221) : RS (w.setRow b cs') R vl vc :=
  ⟨EK.row_fr h.1 (setRow_fr' w b cs') (fun _ hk e => k127_ne h.1 hb h1 (e ▸ hk)), EK.row_fr h.2 (setRow_fr' w b cs') (fun _ hk e => k221_ne h.2 hb h2 (e ▸ hk))⟩
theorem Net.set {w : World} {B g : Nat} {N : NetS} (h : Net w B g N) {b : Nat} {cs cs' : Array Value} {t : TypeId} {f : Nat × Nat} (hb : w.heap[b]? = some (.cells cs t f)) (h1 : t ≠ 209) (h2 : t ≠ 214) : Net (w.setRow b cs') B g N := by
  obtain ⟨⟨v, c, hn, hx⟩, hi⟩ := h
  exact ⟨⟨v, c, hn.fr (setRow_fr' w b cs') (fun e => obj_ne_t hn.1 hb (Ne.symm h1) e) (fun e => cm_ne hn.2.2 hb e.symm) (fun _ hk e => row_ne_t hn.2.1 hb h2 (e ▸ hk)), hx⟩, hi⟩
theorem set_far {w : World} {b k : Nat} {cs' : Array Value} {o : Obj} (h : w.heap[k]? = some o) (hk : k ≠ b) : (w.setRow b cs').heap[k]? = some o := (setRow_far' hk).trans h
theorem set_below {w0 w : World} {b : Nat} {cs' : Array Value} (h : Below w0.heap.size w0 w) (hb : w0.heap.size ≤ b) : Below w0.heap.size w0 (w.setRow b cs') :=
  h.trans ((setRow_fr' w b cs').below _ h.size (fun j hj e => by omega))
theorem cuL_len (C : List (Int × Int)) (p : Int × Int) (on : Bool) : (cuL C p on).length ≤ C.length + 1 := by
  unfold cuL
  have := List.length_filter_le (fun q => decide (q ≠ p)) C
  rw [List.length_append]
  split <;> simp only [List.length_cons, List.length_nil] <;> omega
/-- What holds ahead of deed k. -/
def PnM (w0 : World) (g bx k : Nat) (N : NetS) (R : RN) (vl vc : Value) (w : World) : Prop :=
  Net w w0.heap.size g N ∧ RelN N R ∧ w.heap[bx]? = some (.cells (rv R vl vc) 120 (0, 0)) ∧ RS w R vl vc ∧ R.c.length ≤ k ∧ Below w0.heap.size w0 w
def PnS (w0 : World) (g bx n : Nat) (w : World) (iv : Value) : Prop := ∃ (k : Nat) (N : NetS) (R : RN) (vl vc : Value), iv = .int .i64 (k : Int) ∧ k ≤ n ∧ PnM w0 g bx k N R vl vc w
/-- What holds behind the deed: both answers, the reference's new net beside the old one, what arrived on both sides. -/
def PnE (w0 : World) (g bx b k : Nat) (s10 s11 : Value) (w : World) : Prop := ∃ (bb : Bool) (N : NetS) (R : RN) (vl vc : Value) (m : Msg) (cx : Array Value), s10 = .bool bb ∧ s11 = .bool bb ∧ cx.size = 3 ∧
  Net w w0.heap.size g N ∧ RelN N R ∧ w.heap[bx]? = some (.cells cx 120 (0, 0)) ∧ w.heap[b + 1]? = some (.cells (rv R vl vc) 120 (0, 0)) ∧ RS w R vl vc ∧
  w.heap[b + 1 + 1]? = some (.cells #[.int .i64 m.k, .int .i64 m.f, .int .i64 m.t, .int .i64 m.i, .string m.b] 63 (0, 0)) ∧ w.heap[b + 1 + 1 + 1]? = some (.cells #[.int .i64 m.k, .int .i64 m.f, .int .i64 m.t, .int .i64 m.i, .string m.b] 63 (0, 0)) ∧ R.c.length ≤ k ∧ Below w0.heap.size w0 w
theorem neq63 (m : Msg) (w : World) : (binOp .neq 63 (.agg #[.int .i64 m.k, .int .i64 m.f, .int .i64 m.t, .int .i64 m.i, .string m.b]) (.agg #[.int .i64 m.k, .int .i64 m.f, .int .i64 m.t, .int .i64 m.i, .string m.b])).run Try.prog w = .ok (.bool false) w := by
  rw [run_neq_struct, eq63, msgEq_iff.2 rfl]
  rfl
theorem wp_binop' {P : Program} {o : Oper} {a : Act} {w : World} {K : Act → World → Prop} {Q : Exit → Act → World → Prop} (op : BinOp) (ty : TypeId) (x y : Operand) (t2 : TypeId) (ho : o.op = .binOp op ty x y t2) {vx vy u : Value} (hx : a.eval x = vx) (hy : a.eval y = vy)
    (hgd : (eqGuard op ty x y vx vy).run P w = .ok () w) (hrun : (binOp op ty vx vy).run P w = .ok u w) (h : K (a.put o.dst u) w) : Oper.wp P o a w K Q := by
  unfold Oper.wp execOp
  simp only [ho, hx, hy, Sem.run_bind, hgd, hrun, Result.andThen_ok, Sem.run_pure]
  exact h
theorem guard63n (x y : Operand) (u v : Array Value) (w : World) : (eqGuard .neq 63 x y (.agg u) (.agg v)).run Try.prog w = .ok () w := run_eqGuard_agg w .neq 63 x y u v (by kernel_rfl)
def pnA (n : Int) (a : Addr) (ll c k : Nat) (nn : Int) (g bx b : Nat) (bb : Bool) (u x : Nat → Value) : Act := ⟨#[.int .i64 n, .slice (some a) ll c, undef, undef, u 4, .pointer (some ⟨g, 0, none⟩), .pointer (some ⟨bx, 0, none⟩), .int .i64 (k : Int), u 8, u 9, .bool bb, .bool bb, .pointer (some ⟨(b + 1 + 1), 0, none⟩), .pointer (some ⟨(b + 1 + 1 + 1), 0, none⟩), .slice (some a) ll c, .int .i64 1, .bool false, undef, .int .i64 n, .pointer (some ⟨g, 0, none⟩), .int .i64 n, .agg #[.int .i64 nn, .slice none 0 0, .slice none 0 0], u 22, u 23, u 24, u 25, u 26, u 27, u 28, u 29, u 30, u 31, u 32, u 33, u 34, u 35, u 36, u 37, u 38, u 39, u 40, u 41, u 42, u 43, u 44, u 45, u 46, u 47, u 48, u 49, u 50, u 51, u 52, u 53, u 54, u 55, u 56, u 57, u 58, u 59, u 60, u 61, u 62, u 63, u 64, u 65, u 66, u 67, u 68, u 69, u 70, u 71, u 72, u 73, u 74, u 75, u 76, u 77, u 78, u 79, u 80, u 81, u 82, u 83, u 84, u 85, u 86, u 87, u 88, u 89, u 90, u 91, u 92, u 93, u 94, u 95, u 96, u 97, u 98, u 99, u 100, u 101, u 102, u 103, u 104, u 105, u 106, u 107, u 108, u 109, u 110, u 111, u 112, u 113, u 114, u 115, u 116, u 117, u 118, u 119, u 120, u 121, u 122, u 123, u 124, u 125, u 126, u 127, u 128, u 129, u 130, u 131, u 132, u 133, u 134, u 135, u 136, u 137, x 0, x 1, x 2, x 3, x 4, x 5, x 6, x 7, x 8, x 9, x 10, x 11, x 12, x 13, x 14, x 15, undef], []⟩
def pnV (g bx : Nat) (bb : Bool) (m : Msg) (A1 : Option Addr) (n1 c1 : Nat) (qx : Nat) (qw : Value) : Prop :=
  match qx with
  | 0 => qw = .bool bb
  | 1 => qw = .bool bb
  | 2 => qw = .bool false
  | 3 => qw = .bool false
  | 4 => qw = .agg #[.int .i64 m.k, .int .i64 m.f, .int .i64 m.t, .int .i64 m.i, .string m.b]
  | 5 => qw = .agg #[.int .i64 m.k, .int .i64 m.f, .int .i64 m.t, .int .i64 m.i, .string m.b]
  | 6 => qw = .bool false
  | 7 => qw = .bool false
  | 8 => qw = .bool false
  | 9 => qw = .pointer (some ⟨g, 0, none⟩)
  | 10 => qw = .int .i64 (n1 : Int)
  | 11 => qw = .pointer (some ⟨bx, 1, none⟩)
  | 12 => qw = .slice A1 n1 c1
  | 13 => qw = .int .i64 (n1 : Int)
  | 14 => qw = .bool false
  | 15 => qw = .bool false
  | _ => True
set_option maxHeartbeats 16000000 in
set_option maxRecDepth 1000000 in
theorem walk_netPlays (n : Int) (v : Value) (l : List NDeed) (w : World) (_hn : (Lit.int .i64 n).wf = true) (h : NDeedArg w v l) (hwf : ∀ x ∈ l, x.wf) :
    Calls Try.prog 16 #[.int .i64 n, v] w fun e w' => e = .returned (.bool true) ∧ Below w.heap.size w w' := by
  have hlen : l.length ≤ 9223372036854775807 := Nat.le_trans h.len (by decide)
  obtain ⟨A, c, hv⟩ := h.slice
  subst hv
  have HD := hide h
  have HWF := hide hwf
  clear h hwf
  rcases Nat.lt_or_ge 120 l.length with h120 | h120
  · go_enter Try.func16, Try.ntmps16
    go_wp2_with fail
    refine (few13_far _ _ _ _ h120).mono ?_
    rintro e w1 ⟨rfl, rfl⟩
    go_wp2_with fail
    refine (awake13 _).mono ?_
    rintro e w1 ⟨rfl, hb1⟩
    go_wp2
    go_ret
    exact ⟨rfl, hb1⟩
  go_enter Try.func16, Try.ntmps16
  go_wp2_with fail
  refine (few13_ok _ _ _ _ h120).mono ?_
  rintro e w1 ⟨rfl, rfl⟩
  go_wp2_with fail
  refine (new_net n _).mono ?_
  rintro e w1 ⟨rfl, hn1, hb1⟩
  obtain ⟨g, hg⟩ : ∃ g, g = w.heap.size + 1 := ⟨_, rfl⟩
  rw [← hg] at hn1
  rw [← hg]
  have HN1 := hide hn1
  have HB1 := hide hb1
  have HG := hide hg
  clear hn1 hb1 hg
  go_wp2_with fail
  refine (rnew_any n _).mono ?_
  rintro e w2 ⟨rfl, hb2⟩
  unfold rv
  have hbl := hb2.alloc hb2.size (.cells #[.int .i64 (min (max n 1) 64), .slice none 0 0, .slice none 0 0] 120)
  have HST : Hid (PnS w g w2.heap.size l.length (w2.alloc (.cells #[.int .i64 (min (max n 1) 64), .slice none 0 0, .slice none 0 0] 120)) (.int .i64 0)) := hide ⟨0, net0 n, ⟨min (max n 1) 64, [], []⟩, _, _, rfl, Nat.zero_le _, HN1.out.below hbl, rel_new n, obj_new _ _, ⟨EK.row_nil _ _, EK.row_nil _ _⟩, Nat.le_refl _, HB1.out.trans (hbl.mono HB1.out.size)⟩
  have HBX : Hid (w.heap.size ≤ w2.heap.size ∧ g < w2.heap.size) := hide ⟨by have := HB1.out.size; have := hb2.size; omega, by have := HN1.out.lt; have := hb2.size; omega⟩
  obtain ⟨bx, hbx⟩ : ∃ b, b = w2.heap.size := ⟨_, rfl⟩
  rw [← hbx] at HST HBX
  generalize min (max n 1) 64 = nn at HST ⊢
  obtain ⟨W2, hW2⟩ : ∃ W2, W2 = w2.alloc (.cells #[.int .i64 nn, .slice none 0 0, .slice none 0 0] 120) := ⟨_, rfl⟩
  rw [← hW2] at HST
  have HW2 := hide hW2
  have HBXE := hide hbx
  clear hb2 hbl HN1 HB1 hbx hW2
  go_wp2_with fail
  rw [← HW2.out, ← HBXE.out]
  clear HW2 HBXE
  go_loopw [7] (fun iv wr => PnS w g bx l.length wr iv) (fun iv _ => l.length - (intOf iv).toNat)
  case atStart => exact HST.out
  case round =>
    obtain ⟨k, N, R, vl, vc, rfl, hk, hN, hRel, hX, hR, hcl, hB⟩ := hrel
    rcases Nat.lt_or_ge k l.length with hkl | hkl
    · obtain ⟨a, cap, hv, hc1, hc2, c0, c1, c2, c3, c4, c5, c6, c7, c8⟩ := (HD.out.below hB).cells hkl
      cases hv
      have hdw := HWF.out l[k] (List.getElem_mem hkl)
      generalize l[k] = d at c0 c1 c2 c3 c4 c5 c6 c7 c8 hdw
      have hsz : d.m.b.size ≤ 9223372036854775807 := by have h9 : d.m.b.size ≤ maxLen := hdw.2.2.2.2.2.2.2.2; simp only [maxLen] at h9; omega
      obtain ⟨A1, d1, A2, d2, ev, ew⟩ := hR.slices
      subst ev ew
      unfold rv at hX
      obtain ⟨b, hb⟩ : ∃ b, b = wr.heap.size := ⟨_, rfl⟩
      obtain ⟨W, hW⟩ : ∃ W, W = (((wr.alloc (.cells #[.int .i64 d.kind, .int .i64 d.a, .int .i64 d.b, .int .i64 d.c, .int .i64 d.m.k, .int .i64 d.m.f, .int .i64 d.m.t, .int .i64 d.m.i, .string d.m.b] 111)).alloc (.cells #[.int .i64 R.n, .slice A1 R.l.length d1, .slice A2 R.c.length d2] 120)).alloc (.cells #[.int .i64 0, .int .i64 0, .int .i64 0, .int .i64 0, .string ⟨#[]⟩] 63)).alloc (.cells #[.int .i64 0, .int .i64 0, .int .i64 0, .int .i64 0, .string ⟨#[]⟩] 63) := ⟨_, rfl⟩
      have hal : Below wr.heap.size wr W := hW ▸ ((((Below.refl wr.heap.size wr).alloc (Nat.le_refl _) (.cells #[.int .i64 d.kind, .int .i64 d.a, .int .i64 d.b, .int .i64 d.c, .int .i64 d.m.k, .int .i64 d.m.f, .int .i64 d.m.t, .int .i64 d.m.i, .string d.m.b] 111)).alloc (by simp) (.cells #[.int .i64 R.n, .slice A1 R.l.length d1, .slice A2 R.c.length d2] 120)).alloc (by simp only [World.size_alloc]; omega) (.cells #[.int .i64 0, .int .i64 0, .int .i64 0, .int .i64 0, .string ⟨#[]⟩] 63)).alloc (by simp only [World.size_alloc]; omega) (.cells #[.int .i64 0, .int .i64 0, .int .i64 0, .int .i64 0, .string ⟨#[]⟩] 63)
      have HDB := hide (show W.heap[b]? = some (.cells #[.int .i64 d.kind, .int .i64 d.a, .int .i64 d.b, .int .i64 d.c, .int .i64 d.m.k, .int .i64 d.m.f, .int .i64 d.m.t, .int .i64 d.m.i, .string d.m.b] 111 (0, 0)) from hW ▸ hb ▸ obj_alloc (obj_alloc (obj_alloc (obj_new wr (.cells #[.int .i64 d.kind, .int .i64 d.a, .int .i64 d.b, .int .i64 d.c, .int .i64 d.m.k, .int .i64 d.m.f, .int .i64 d.m.t, .int .i64 d.m.i, .string d.m.b] 111)) _) _) _)
      have HYB := hide (show W.heap[b + 1]? = some (.cells #[.int .i64 R.n, .slice A1 R.l.length d1, .slice A2 R.c.length d2] 120 (0, 0)) from hW ▸ hb ▸ obj_alloc (obj_alloc (obj_new' wr (.cells #[.int .i64 d.kind, .int .i64 d.a, .int .i64 d.b, .int .i64 d.c, .int .i64 d.m.k, .int .i64 d.m.f, .int .i64 d.m.t, .int .i64 d.m.i, .string d.m.b] 111) (.cells #[.int .i64 R.n, .slice A1 R.l.length d1, .slice A2 R.c.length d2] 120)) _) _)
      have HMB := hide (show W.heap[b + 1 + 1]? = some (.cells #[.int .i64 0, .int .i64 0, .int .i64 0, .int .i64 0, .string ⟨#[]⟩] 63 (0, 0)) from hW ▸ hb ▸ obj_alloc (by
        have := obj_new' (wr.alloc (.cells #[.int .i64 d.kind, .int .i64 d.a, .int .i64 d.b, .int .i64 d.c, .int .i64 d.m.k, .int .i64 d.m.f, .int .i64 d.m.t, .int .i64 d.m.i, .string d.m.b] 111)) (.cells #[.int .i64 R.n, .slice A1 R.l.length d1, .slice A2 R.c.length d2] 120) (.cells #[.int .i64 0, .int .i64 0, .int .i64 0, .int .i64 0, .string ⟨#[]⟩] 63)
        rwa [World.size_alloc] at this) _)
      have HGB := hide (show W.heap[b + 1 + 1 + 1]? = some (.cells #[.int .i64 0, .int .i64 0, .int .i64 0, .int .i64 0, .string ⟨#[]⟩] 63 (0, 0)) from hW ▸ hb ▸ (by
        have := obj_new' ((wr.alloc (.cells #[.int .i64 d.kind, .int .i64 d.a, .int .i64 d.b, .int .i64 d.c, .int .i64 d.m.k, .int .i64 d.m.f, .int .i64 d.m.t, .int .i64 d.m.i, .string d.m.b] 111)).alloc (.cells #[.int .i64 R.n, .slice A1 R.l.length d1, .slice A2 R.c.length d2] 120)) (.cells #[.int .i64 0, .int .i64 0, .int .i64 0, .int .i64 0, .string ⟨#[]⟩] 63) (.cells #[.int .i64 0, .int .i64 0, .int .i64 0, .int .i64 0, .string ⟨#[]⟩] 63)
        rwa [World.size_alloc, World.size_alloc] at this))
      have HN := hide (hN.below hal)
      have HR := hide (hR.below hal)
      have HX := hide (obj_below hX hal)
      have HB := hide (hB.trans (hal.mono hB.size))
      have HREL := hide hRel
      have hbxb : bx < b := hb ▸ obj_lt hX
      have hbxw : bx < wr.heap.size := obj_lt hX
      have hwb : w.heap.size ≤ b := hb ▸ hB.size
      have hll : N.way.length = R.l.length := hRel.len
      have hl1 : N.way.length ≤ 1024 := hN.2.1
      have HLL := hide hll
      have x0 := obj_cell hX 0
      have x1 := obj_cell hX 1
      have x2 := obj_cell hX 2
      simp only [List.getElem?_toArray, List.getElem?_cons_zero, List.getElem?_cons_succ] at x0 x1 x2
      have HWE := hide hW
      have HBE := hide hb
      clear hal hN hR hX hB hRel hb hW hdw hll
      go_upto_region 9 with fail
      go_cut [12, 13] from 22 to 153 (fun s12 s13 wx => s12 = .pointer (some ⟨b + 1 + 1, 0, none⟩) ∧ s13 = .pointer (some ⟨b + 1 + 1 + 1, 0, none⟩) ∧ wx = W)
      case first =>
        go_wp2
        go_meet
        case rel => exact ⟨by rw [HBE.out], by rw [HBE.out], HWE.out.symm⟩
      case rest =>
      obtain ⟨rfl, rfl, rfl⟩ := hcut
      rw [← HBE.out]
      clear HWE HBE c0 c1 c2 c3 c4 c5 c6 c7 c8 x0 x1 x2
      go_step
      go_step
      go_cut [10, 11] from 22 to 153 (fun s10 s11 wx => PnE w g bx b (k + 1) s10 s11 wx)
      case first =>
        by_cases hk0 : d.kind = 0
        · have z0 := obj_cell HDB.out 0
          have z4 := obj_cell HDB.out 4
          have z5 := obj_cell HDB.out 5
          have z6 := obj_cell HDB.out 6
          have z7 := obj_cell HDB.out 7
          have z8 := obj_cell HDB.out 8
          simp only [List.getElem?_toArray, List.getElem?_cons_zero, List.getElem?_cons_succ] at z0 z4 z5 z6 z7 z8
          rw [hk0] at z0
          obtain ⟨o, ec, hE, hRE, ho⟩ := enc13 d.m.k d.m.f d.m.t d.m.i d.m.b hsz
          have HRS := hide (ref_send HREL.out HR.out d.m.k d.m.f d.m.t d.m.i d.m.b o ec hRE)
          unfold rv at HRS
          have x0 := obj_cell HX.out 0
          have x1 := obj_cell HX.out 1
          have x2 := obj_cell HX.out 2
          simp only [List.getElem?_toArray, List.getElem?_cons_zero, List.getElem?_cons_succ] at x0 x1 x2
          go_wp2_with fail
          refine HRS.out.mono ?_
          rintro e w2 ⟨R2, vl2, vc2, rfl, hrel2, hr2, hc2', hb2⟩
          obtain ⟨A3, d3, A4, d4, ev, ew⟩ := hr2.slices
          subst ev ew
          clear HRS x0 x1 x2 z0 z4 z5 z6 z7 z8
          have hx2 := obj_below HX.out hb2
          have hy2 := obj_below HYB.out hb2
          have hm2 := obj_below HMB.out hb2
          have hg2 := obj_below HGB.out hb2
          have hd2 := obj_below HDB.out hb2
          have hn2 := HN.out.below hb2
          have hB2 := HB.out.trans (hb2.mono HB.out.size)
          have hst := store_whole (P := Try.prog) (ty := 120) hy2 (cells := #[.int .i64 R2.n, .slice A3 R2.l.length d3, .slice A4 R2.c.length d4]) info120 rfl (by simp [Value.oneCell'])
          have hy3 := setRow_at' (C' := #[.int .i64 R2.n, .slice A3 R2.l.length d3, .slice A4 R2.c.length d4]) hy2
          have hx3 := set_far (cs' := #[.int .i64 R2.n, .slice A3 R2.l.length d3, .slice A4 R2.c.length d4]) hx2 (show bx ≠ b + 1 by omega)
          have hm3 := set_far (cs' := #[.int .i64 R2.n, .slice A3 R2.l.length d3, .slice A4 R2.c.length d4]) hm2 (show b + 1 + 1 ≠ b + 1 by omega)
          have hg3 := set_far (cs' := #[.int .i64 R2.n, .slice A3 R2.l.length d3, .slice A4 R2.c.length d4]) hg2 (show b + 1 + 1 + 1 ≠ b + 1 by omega)
          have hd3 := set_far (cs' := #[.int .i64 R2.n, .slice A3 R2.l.length d3, .slice A4 R2.c.length d4]) hd2 (show b ≠ b + 1 by omega)
          have hn3 := Net.set (cs' := #[.int .i64 R2.n, .slice A3 R2.l.length d3, .slice A4 R2.c.length d4]) hn2 hy2 (by decide) (by decide)
          have hr3 := RS.set (cs' := #[.int .i64 R2.n, .slice A3 R2.l.length d3, .slice A4 R2.c.length d4]) hr2 hy2 (by decide) (by decide)
          have hB3 := set_below (cs' := #[.int .i64 R2.n, .slice A3 R2.l.length d3, .slice A4 R2.c.length d4]) hB2 (show w.heap.size ≤ b + 1 by omega)
          obtain ⟨W3, hW3⟩ : ∃ W3, W3 = w2.setRow (b + 1) #[.int .i64 R2.n, .slice A3 R2.l.length d3, .slice A4 R2.c.length d4] := ⟨_, rfl⟩
          rw [← hW3] at hst hy3 hx3 hm3 hg3 hd3 hn3 hr3 hB3
          have HST := hide hst
          have HX4 := hide hx3
          have HY4 := hide hy3
          have HM4 := hide hm3
          have HG4 := hide hg3
          have HD4 := hide hd3
          have HN4 := hide hn3
          have HR4 := hide hr3
          have HB4 := hide hB3
          have HRL := hide hrel2
          have HC2 := hide hc2'
          have hwW : w.heap.size ≤ W3.heap.size := HB4.out.size
          clear  hrel2 hc2' hb2 hr2 hx2 hy2 hm2 hg2 hd2 hn2 hB2 hst hy3 hx3 hm3 hg3 hd3 hn3 hr3 hB3 hW3
          have HNC := hide (send_net HN4.out d.m.k d.m.f d.m.t d.m.i d.m.b o ec hE (fun h => (ho h).1))
          have z0 := obj_cell HD4.out 0
          have z4 := obj_cell HD4.out 4
          have z5 := obj_cell HD4.out 5
          have z6 := obj_cell HD4.out 6
          have z7 := obj_cell HD4.out 7
          have z8 := obj_cell HD4.out 8
          simp only [List.getElem?_toArray, List.getElem?_cons_zero, List.getElem?_cons_succ] at z0 z4 z5 z6 z7 z8
          rw [hk0] at z0
          go_wp2_with (refine wpList_storev' rfl 120 (.tmp 9) (.tmp 42) rfl rfl rfl HST.out ?_)
          refine HNC.out.mono ?_
          rintro e w5 ⟨rfl, hn5, hk5⟩
          have hx5 := hk5.obj HX4.out (by decide) (by decide)
          have hy5 := hk5.obj HY4.out (by decide) (by decide)
          have hm5 := hk5.obj HM4.out (by decide) (by decide)
          have hg5 := hk5.obj HG4.out (by decide) (by decide)
          have hr5 := HR4.out.keep hk5
          have hB5 := KeepN.on HB4.out hwW hk5
          have HE := hide (show PnE w g bx b (k + 1) (.bool (sendY N d.m.f d.m.t ec)) (.bool (sendY N d.m.f d.m.t ec)) w5 from ⟨_, _, R2, _, _, msg0, _, rfl, rfl, rfl, hn5, HRL.out, hx5, hy5, hr5, hm5, hg5, by have := HC2.out; omega, hB5⟩)
          generalize sendY N d.m.f d.m.t ec = bb at HE ⊢
          clear hx5 hy5 hm5 hg5 hr5 hB5 hn5 hk5 HST HNC  z0 z4 z5 z6 z7 z8
          go_wp2
          go_meet
          case rel => exact HE.out
        have hkj0 : (d.kind == 0) = false := by simp [hk0]
        by_cases hk1 : d.kind = 1
        · have z0 := obj_cell HDB.out 0
          have z1 := obj_cell HDB.out 1
          simp only [List.getElem?_toArray, List.getElem?_cons_zero, List.getElem?_cons_succ] at z0 z1
          rw [hk1] at z0
          have hRD := fun (wx : World) (hx : RS wx R (.slice A1 R.l.length d1) (.slice A2 R.c.length d2)) => ref_deliver HREL.out hx HN.out.2 d.a
          have hND := fun (wx : World) (hx : Net wx w.heap.size g N) => deliver_net hx d.a
          generalize (dvM N d.a).2 = bb at hRD hND
          generalize (dvM N d.a).1 = m at hRD hND
          unfold Msg.cells at hRD hND
          have HND := hide hND
          have HRS := hide (hRD _ HR.out)
          unfold rv at HRS
          have x0 := obj_cell HX.out 0
          have x1 := obj_cell HX.out 1
          have x2 := obj_cell HX.out 2
          simp only [List.getElem?_toArray, List.getElem?_cons_zero, List.getElem?_cons_succ] at x0 x1 x2
          go_wp2_with fail
          refine HRS.out.mono ?_
          rintro e w2 ⟨R2, vl2, vc2, rfl, hrel2, hr2, hc2', hb2⟩
          obtain ⟨A3, d3, A4, d4, ev, ew⟩ := hr2.slices
          subst ev ew
          clear hRD hND HRS x0 x1 x2 z0 z1
          have hx2 := obj_below HX.out hb2
          have hy2 := obj_below HYB.out hb2
          have hm2 := obj_below HMB.out hb2
          have hg2 := obj_below HGB.out hb2
          have hd2 := obj_below HDB.out hb2
          have hn2 := HN.out.below hb2
          have hB2 := HB.out.trans (hb2.mono HB.out.size)
          have hst := store_whole (P := Try.prog) (ty := 120) hy2 (cells := #[.int .i64 R2.n, .slice A3 R2.l.length d3, .slice A4 R2.c.length d4]) info120 rfl (by simp [Value.oneCell'])
          have hy3 := setRow_at' (C' := #[.int .i64 R2.n, .slice A3 R2.l.length d3, .slice A4 R2.c.length d4]) hy2
          have hx3 := set_far (cs' := #[.int .i64 R2.n, .slice A3 R2.l.length d3, .slice A4 R2.c.length d4]) hx2 (show bx ≠ b + 1 by omega)
          have hm3 := set_far (cs' := #[.int .i64 R2.n, .slice A3 R2.l.length d3, .slice A4 R2.c.length d4]) hm2 (show b + 1 + 1 ≠ b + 1 by omega)
          have hg3 := set_far (cs' := #[.int .i64 R2.n, .slice A3 R2.l.length d3, .slice A4 R2.c.length d4]) hg2 (show b + 1 + 1 + 1 ≠ b + 1 by omega)
          have hd3 := set_far (cs' := #[.int .i64 R2.n, .slice A3 R2.l.length d3, .slice A4 R2.c.length d4]) hd2 (show b ≠ b + 1 by omega)
          have hn3 := Net.set (cs' := #[.int .i64 R2.n, .slice A3 R2.l.length d3, .slice A4 R2.c.length d4]) hn2 hy2 (by decide) (by decide)
          have hr3 := RS.set (cs' := #[.int .i64 R2.n, .slice A3 R2.l.length d3, .slice A4 R2.c.length d4]) hr2 hy2 (by decide) (by decide)
          have hB3 := set_below (cs' := #[.int .i64 R2.n, .slice A3 R2.l.length d3, .slice A4 R2.c.length d4]) hB2 (show w.heap.size ≤ b + 1 by omega)
          obtain ⟨W3, hW3⟩ : ∃ W3, W3 = w2.setRow (b + 1) #[.int .i64 R2.n, .slice A3 R2.l.length d3, .slice A4 R2.c.length d4] := ⟨_, rfl⟩
          rw [← hW3] at hst hy3 hx3 hm3 hg3 hd3 hn3 hr3 hB3
          have HST := hide hst
          have hsm := store_whole (P := Try.prog) (ty := 63) hm3 (cells := #[.int .i64 m.k, .int .i64 m.f, .int .i64 m.t, .int .i64 m.i, .string m.b]) info63 rfl (by simp [Value.oneCell'])
          have hy4 := set_far (cs' := #[.int .i64 m.k, .int .i64 m.f, .int .i64 m.t, .int .i64 m.i, .string m.b]) hy3 (show b + 1 ≠ b + 1 + 1 by omega)
          have hx4 := set_far (cs' := #[.int .i64 m.k, .int .i64 m.f, .int .i64 m.t, .int .i64 m.i, .string m.b]) hx3 (show bx ≠ b + 1 + 1 by omega)
          have hm4 := setRow_at' (C' := #[.int .i64 m.k, .int .i64 m.f, .int .i64 m.t, .int .i64 m.i, .string m.b]) hm3
          have hg4 := set_far (cs' := #[.int .i64 m.k, .int .i64 m.f, .int .i64 m.t, .int .i64 m.i, .string m.b]) hg3 (show b + 1 + 1 + 1 ≠ b + 1 + 1 by omega)
          have hd4 := set_far (cs' := #[.int .i64 m.k, .int .i64 m.f, .int .i64 m.t, .int .i64 m.i, .string m.b]) hd3 (show b ≠ b + 1 + 1 by omega)
          have hn4 := Net.set (cs' := #[.int .i64 m.k, .int .i64 m.f, .int .i64 m.t, .int .i64 m.i, .string m.b]) hn3 hm3 (by decide) (by decide)
          have hr4 := RS.set (cs' := #[.int .i64 m.k, .int .i64 m.f, .int .i64 m.t, .int .i64 m.i, .string m.b]) hr3 hm3 (by decide) (by decide)
          have hB4 := set_below (cs' := #[.int .i64 m.k, .int .i64 m.f, .int .i64 m.t, .int .i64 m.i, .string m.b]) hB3 (show w.heap.size ≤ b + 1 + 1 by omega)
          obtain ⟨W4, hW4⟩ : ∃ W4, W4 = W3.setRow (b + 1 + 1) #[.int .i64 m.k, .int .i64 m.f, .int .i64 m.t, .int .i64 m.i, .string m.b] := ⟨_, rfl⟩
          rw [← hW4] at hsm hy4 hx4 hm4 hg4 hd4 hn4 hr4 hB4
          have HSM := hide hsm
          have HX4 := hide hx4
          have HY4 := hide hy4
          have HM4 := hide hm4
          have HG4 := hide hg4
          have HD4 := hide hd4
          have HN4 := hide hn4
          have HR4 := hide hr4
          have HB4 := hide hB4
          have HRL := hide hrel2
          have HC2 := hide hc2'
          have hwW : w.heap.size ≤ W4.heap.size := HB4.out.size
          clear hy4 hx4 hm4 hg4 hd4 hn4 hr4 hB4 hsm hW4 hrel2 hc2' hb2 hr2 hx2 hy2 hm2 hg2 hd2 hn2 hB2 hst hy3 hx3 hm3 hg3 hd3 hn3 hr3 hB3 hW3
          have HNC := hide (HND.out _ HN4.out)
          have z0 := obj_cell HD4.out 0
          have z1 := obj_cell HD4.out 1
          simp only [List.getElem?_toArray, List.getElem?_cons_zero, List.getElem?_cons_succ] at z0 z1
          rw [hk1] at z0
          go_wp2_with (first | refine wpList_storev' rfl 120 (.tmp 9) (.tmp 55) rfl rfl rfl HST.out ?_ | refine wpList_storev' rfl 63 (.tmp 12) (.tmp 56) rfl rfl rfl HSM.out ?_)
          refine HNC.out.mono ?_
          rintro e w5 ⟨rfl, hn5, hk5⟩
          have hx5 := hk5.obj HX4.out (by decide) (by decide)
          have hy5 := hk5.obj HY4.out (by decide) (by decide)
          have hm5 := hk5.obj HM4.out (by decide) (by decide)
          have hg5 := hk5.obj HG4.out (by decide) (by decide)
          have hr5 := HR4.out.keep hk5
          have hB5 := KeepN.on HB4.out hwW hk5
          have hsg := store_whole (P := Try.prog) (ty := 63) hg5 (cells := #[.int .i64 m.k, .int .i64 m.f, .int .i64 m.t, .int .i64 m.i, .string m.b]) info63 rfl (by simp [Value.oneCell'])
          have hy6 := set_far (cs' := #[.int .i64 m.k, .int .i64 m.f, .int .i64 m.t, .int .i64 m.i, .string m.b]) hy5 (show b + 1 ≠ b + 1 + 1 + 1 by omega)
          have hx6 := set_far (cs' := #[.int .i64 m.k, .int .i64 m.f, .int .i64 m.t, .int .i64 m.i, .string m.b]) hx5 (show bx ≠ b + 1 + 1 + 1 by omega)
          have hm6 := set_far (cs' := #[.int .i64 m.k, .int .i64 m.f, .int .i64 m.t, .int .i64 m.i, .string m.b]) hm5 (show b + 1 + 1 ≠ b + 1 + 1 + 1 by omega)
          have hg6 := setRow_at' (C' := #[.int .i64 m.k, .int .i64 m.f, .int .i64 m.t, .int .i64 m.i, .string m.b]) hg5
          have hn6 := Net.set (cs' := #[.int .i64 m.k, .int .i64 m.f, .int .i64 m.t, .int .i64 m.i, .string m.b]) hn5 hg5 (by decide) (by decide)
          have hr6 := RS.set (cs' := #[.int .i64 m.k, .int .i64 m.f, .int .i64 m.t, .int .i64 m.i, .string m.b]) hr5 hg5 (by decide) (by decide)
          have hB6 := set_below (cs' := #[.int .i64 m.k, .int .i64 m.f, .int .i64 m.t, .int .i64 m.i, .string m.b]) hB5 (show w.heap.size ≤ b + 1 + 1 + 1 by omega)
          obtain ⟨W6, hW6⟩ : ∃ W6, W6 = w5.setRow (b + 1 + 1 + 1) #[.int .i64 m.k, .int .i64 m.f, .int .i64 m.t, .int .i64 m.i, .string m.b] := ⟨_, rfl⟩
          rw [← hW6] at hsg hy6 hx6 hm6 hg6 hn6 hr6 hB6
          have HSG := hide hsg
          have HE := hide (show PnE w g bx b (k + 1) (.bool (bb)) (.bool (bb)) W6 from ⟨_, _, R2, _, _, m, _, rfl, rfl, rfl, hn6, HRL.out, hx6, hy6, hr6, hm6, hg6, by have := HC2.out; omega, hB6⟩)
          clear hx5 hy5 hm5 hg5 hr5 hB5 hn5 hk5 HST HNC hy6 hx6 hm6 hg6 hn6 hr6 hB6 hsg hW6 z0 z1
          go_wp2_with (refine wpList_storev' rfl 63 (.tmp 13) (.tmp 63) rfl rfl rfl HSG.out ?_)
          go_meet
          case rel => exact HE.out
        have hkj1 : (d.kind == 1) = false := by simp [hk1]
        by_cases hk2 : d.kind = 2
        · have z0 := obj_cell HDB.out 0
          have z1 := obj_cell HDB.out 1
          simp only [List.getElem?_toArray, List.getElem?_cons_zero, List.getElem?_cons_succ] at z0 z1
          rw [hk2] at z0
          have HRS := hide (ref_drop HREL.out HR.out HN.out.2 d.a)
          unfold rv at HRS
          have x0 := obj_cell HX.out 0
          have x1 := obj_cell HX.out 1
          have x2 := obj_cell HX.out 2
          simp only [List.getElem?_toArray, List.getElem?_cons_zero, List.getElem?_cons_succ] at x0 x1 x2
          go_wp2_with fail
          refine HRS.out.mono ?_
          rintro e w2 ⟨R2, vl2, vc2, q, rfl, hrel2, hr2, hc2', hb2⟩
          obtain ⟨A3, d3, A4, d4, ev, ew⟩ := hr2.slices
          subst ev ew
          clear HRS x0 x1 x2 z0 z1
          have hx2 := obj_below HX.out hb2
          have hy2 := obj_below HYB.out hb2
          have hm2 := obj_below HMB.out hb2
          have hg2 := obj_below HGB.out hb2
          have hd2 := obj_below HDB.out hb2
          have hn2 := HN.out.below hb2
          have hB2 := HB.out.trans (hb2.mono HB.out.size)
          have hst := store_whole (P := Try.prog) (ty := 120) hy2 (cells := #[.int .i64 R2.n, .slice A3 R2.l.length d3, .slice A4 R2.c.length d4]) info120 rfl (by simp [Value.oneCell'])
          have hy3 := setRow_at' (C' := #[.int .i64 R2.n, .slice A3 R2.l.length d3, .slice A4 R2.c.length d4]) hy2
          have hx3 := set_far (cs' := #[.int .i64 R2.n, .slice A3 R2.l.length d3, .slice A4 R2.c.length d4]) hx2 (show bx ≠ b + 1 by omega)
          have hm3 := set_far (cs' := #[.int .i64 R2.n, .slice A3 R2.l.length d3, .slice A4 R2.c.length d4]) hm2 (show b + 1 + 1 ≠ b + 1 by omega)
          have hg3 := set_far (cs' := #[.int .i64 R2.n, .slice A3 R2.l.length d3, .slice A4 R2.c.length d4]) hg2 (show b + 1 + 1 + 1 ≠ b + 1 by omega)
          have hd3 := set_far (cs' := #[.int .i64 R2.n, .slice A3 R2.l.length d3, .slice A4 R2.c.length d4]) hd2 (show b ≠ b + 1 by omega)
          have hn3 := Net.set (cs' := #[.int .i64 R2.n, .slice A3 R2.l.length d3, .slice A4 R2.c.length d4]) hn2 hy2 (by decide) (by decide)
          have hr3 := RS.set (cs' := #[.int .i64 R2.n, .slice A3 R2.l.length d3, .slice A4 R2.c.length d4]) hr2 hy2 (by decide) (by decide)
          have hB3 := set_below (cs' := #[.int .i64 R2.n, .slice A3 R2.l.length d3, .slice A4 R2.c.length d4]) hB2 (show w.heap.size ≤ b + 1 by omega)
          obtain ⟨W3, hW3⟩ : ∃ W3, W3 = w2.setRow (b + 1) #[.int .i64 R2.n, .slice A3 R2.l.length d3, .slice A4 R2.c.length d4] := ⟨_, rfl⟩
          rw [← hW3] at hst hy3 hx3 hm3 hg3 hd3 hn3 hr3 hB3
          have HST := hide hst
          have HX4 := hide hx3
          have HY4 := hide hy3
          have HM4 := hide hm3
          have HG4 := hide hg3
          have HD4 := hide hd3
          have HN4 := hide hn3
          have HR4 := hide hr3
          have HB4 := hide hB3
          have HRL := hide hrel2
          have HC2 := hide hc2'
          have hwW : w.heap.size ≤ W3.heap.size := HB4.out.size
          clear  hrel2 hc2' hb2 hr2 hx2 hy2 hm2 hg2 hd2 hn2 hB2 hst hy3 hx3 hm3 hg3 hd3 hn3 hr3 hB3 hW3
          have HNC := hide (drop_net HN4.out d.a)
          have z0 := obj_cell HD4.out 0
          have z1 := obj_cell HD4.out 1
          simp only [List.getElem?_toArray, List.getElem?_cons_zero, List.getElem?_cons_succ] at z0 z1
          rw [hk2] at z0
          go_wp2_with (refine wpList_storev' rfl 120 (.tmp 9) (.tmp 72) rfl rfl rfl HST.out ?_)
          refine HNC.out.mono ?_
          rintro e w5 ⟨rfl, hn5, hk5⟩
          have hx5 := hk5.obj HX4.out (by decide) (by decide)
          have hy5 := hk5.obj HY4.out (by decide) (by decide)
          have hm5 := hk5.obj HM4.out (by decide) (by decide)
          have hg5 := hk5.obj HG4.out (by decide) (by decide)
          have hr5 := HR4.out.keep hk5
          have hB5 := KeepN.on HB4.out hwW hk5
          have HE := hide (show PnE w g bx b (k + 1) (.bool (anyY N)) (.bool (anyY N)) w5 from ⟨_, _, R2, _, _, msg0, _, rfl, rfl, rfl, hn5, HRL.out, hx5, hy5, hr5, hm5, hg5, by have := HC2.out; omega, hB5⟩)
          generalize anyY N = bb at HE ⊢
          clear hx5 hy5 hm5 hg5 hr5 hB5 hn5 hk5 HST HNC  z0 z1
          go_wp2
          go_meet
          case rel => exact HE.out
        have hkj2 : (d.kind == 2) = false := by simp [hk2]
        by_cases hk3 : d.kind = 3
        · have z0 := obj_cell HDB.out 0
          have z1 := obj_cell HDB.out 1
          simp only [List.getElem?_toArray, List.getElem?_cons_zero, List.getElem?_cons_succ] at z0 z1
          rw [hk3] at z0
          have HRS := hide (ref_double HREL.out HR.out HN.out.2 d.a)
          unfold rv at HRS
          have x0 := obj_cell HX.out 0
          have x1 := obj_cell HX.out 1
          have x2 := obj_cell HX.out 2
          simp only [List.getElem?_toArray, List.getElem?_cons_zero, List.getElem?_cons_succ] at x0 x1 x2
          go_wp2_with fail
          refine HRS.out.mono ?_
          rintro e w2 ⟨R2, vl2, vc2, rfl, hrel2, hr2, hc2', hb2⟩
          obtain ⟨A3, d3, A4, d4, ev, ew⟩ := hr2.slices
          subst ev ew
          clear HRS x0 x1 x2 z0 z1
          have hx2 := obj_below HX.out hb2
          have hy2 := obj_below HYB.out hb2
          have hm2 := obj_below HMB.out hb2
          have hg2 := obj_below HGB.out hb2
          have hd2 := obj_below HDB.out hb2
          have hn2 := HN.out.below hb2
          have hB2 := HB.out.trans (hb2.mono HB.out.size)
          have hst := store_whole (P := Try.prog) (ty := 120) hy2 (cells := #[.int .i64 R2.n, .slice A3 R2.l.length d3, .slice A4 R2.c.length d4]) info120 rfl (by simp [Value.oneCell'])
          have hy3 := setRow_at' (C' := #[.int .i64 R2.n, .slice A3 R2.l.length d3, .slice A4 R2.c.length d4]) hy2
          have hx3 := set_far (cs' := #[.int .i64 R2.n, .slice A3 R2.l.length d3, .slice A4 R2.c.length d4]) hx2 (show bx ≠ b + 1 by omega)
          have hm3 := set_far (cs' := #[.int .i64 R2.n, .slice A3 R2.l.length d3, .slice A4 R2.c.length d4]) hm2 (show b + 1 + 1 ≠ b + 1 by omega)
          have hg3 := set_far (cs' := #[.int .i64 R2.n, .slice A3 R2.l.length d3, .slice A4 R2.c.length d4]) hg2 (show b + 1 + 1 + 1 ≠ b + 1 by omega)
          have hd3 := set_far (cs' := #[.int .i64 R2.n, .slice A3 R2.l.length d3, .slice A4 R2.c.length d4]) hd2 (show b ≠ b + 1 by omega)
          have hn3 := Net.set (cs' := #[.int .i64 R2.n, .slice A3 R2.l.length d3, .slice A4 R2.c.length d4]) hn2 hy2 (by decide) (by decide)
          have hr3 := RS.set (cs' := #[.int .i64 R2.n, .slice A3 R2.l.length d3, .slice A4 R2.c.length d4]) hr2 hy2 (by decide) (by decide)
          have hB3 := set_below (cs' := #[.int .i64 R2.n, .slice A3 R2.l.length d3, .slice A4 R2.c.length d4]) hB2 (show w.heap.size ≤ b + 1 by omega)
          obtain ⟨W3, hW3⟩ : ∃ W3, W3 = w2.setRow (b + 1) #[.int .i64 R2.n, .slice A3 R2.l.length d3, .slice A4 R2.c.length d4] := ⟨_, rfl⟩
          rw [← hW3] at hst hy3 hx3 hm3 hg3 hd3 hn3 hr3 hB3
          have HST := hide hst
          have HX4 := hide hx3
          have HY4 := hide hy3
          have HM4 := hide hm3
          have HG4 := hide hg3
          have HD4 := hide hd3
          have HN4 := hide hn3
          have HR4 := hide hr3
          have HB4 := hide hB3
          have HRL := hide hrel2
          have HC2 := hide hc2'
          have hwW : w.heap.size ≤ W3.heap.size := HB4.out.size
          clear  hrel2 hc2' hb2 hr2 hx2 hy2 hm2 hg2 hd2 hn2 hB2 hst hy3 hx3 hm3 hg3 hd3 hn3 hr3 hB3 hW3
          have HNC := hide (double_net HN4.out d.a)
          have z0 := obj_cell HD4.out 0
          have z1 := obj_cell HD4.out 1
          simp only [List.getElem?_toArray, List.getElem?_cons_zero, List.getElem?_cons_succ] at z0 z1
          rw [hk3] at z0
          go_wp2_with (refine wpList_storev' rfl 120 (.tmp 9) (.tmp 86) rfl rfl rfl HST.out ?_)
          refine HNC.out.mono ?_
          rintro e w5 ⟨rfl, hn5, hk5⟩
          have hx5 := hk5.obj HX4.out (by decide) (by decide)
          have hy5 := hk5.obj HY4.out (by decide) (by decide)
          have hm5 := hk5.obj HM4.out (by decide) (by decide)
          have hg5 := hk5.obj HG4.out (by decide) (by decide)
          have hr5 := HR4.out.keep hk5
          have hB5 := KeepN.on HB4.out hwW hk5
          have HE := hide (show PnE w g bx b (k + 1) (.bool (doubY N)) (.bool (doubY N)) w5 from ⟨_, _, R2, _, _, msg0, _, rfl, rfl, rfl, hn5, HRL.out, hx5, hy5, hr5, hm5, hg5, by have := HC2.out; omega, hB5⟩)
          generalize doubY N = bb at HE ⊢
          clear hx5 hy5 hm5 hg5 hr5 hB5 hn5 hk5 HST HNC  z0 z1
          go_wp2
          go_meet
          case rel => exact HE.out
        have hkj3 : (d.kind == 3) = false := by simp [hk3]
        by_cases hk4 : d.kind = 4
        · have z0 := obj_cell HDB.out 0
          have z1 := obj_cell HDB.out 1
          have z2 := obj_cell HDB.out 2
          have z3 := obj_cell HDB.out 3
          simp only [List.getElem?_toArray, List.getElem?_cons_zero, List.getElem?_cons_succ] at z0 z1 z2 z3
          rw [hk4] at z0
          have HRS := hide (ref_spoil HREL.out HR.out HN.out.2 d.a d.b d.c)
          unfold rv at HRS
          have x0 := obj_cell HX.out 0
          have x1 := obj_cell HX.out 1
          have x2 := obj_cell HX.out 2
          simp only [List.getElem?_toArray, List.getElem?_cons_zero, List.getElem?_cons_succ] at x0 x1 x2
          go_wp2_with fail
          refine HRS.out.mono ?_
          rintro e w2 ⟨R2, vl2, vc2, rfl, hrel2, hr2, hc2', hb2⟩
          obtain ⟨A3, d3, A4, d4, ev, ew⟩ := hr2.slices
          subst ev ew
          clear HRS x0 x1 x2 z0 z1 z2 z3
          have hx2 := obj_below HX.out hb2
          have hy2 := obj_below HYB.out hb2
          have hm2 := obj_below HMB.out hb2
          have hg2 := obj_below HGB.out hb2
          have hd2 := obj_below HDB.out hb2
          have hn2 := HN.out.below hb2
          have hB2 := HB.out.trans (hb2.mono HB.out.size)
          have hst := store_whole (P := Try.prog) (ty := 120) hy2 (cells := #[.int .i64 R2.n, .slice A3 R2.l.length d3, .slice A4 R2.c.length d4]) info120 rfl (by simp [Value.oneCell'])
          have hy3 := setRow_at' (C' := #[.int .i64 R2.n, .slice A3 R2.l.length d3, .slice A4 R2.c.length d4]) hy2
          have hx3 := set_far (cs' := #[.int .i64 R2.n, .slice A3 R2.l.length d3, .slice A4 R2.c.length d4]) hx2 (show bx ≠ b + 1 by omega)
          have hm3 := set_far (cs' := #[.int .i64 R2.n, .slice A3 R2.l.length d3, .slice A4 R2.c.length d4]) hm2 (show b + 1 + 1 ≠ b + 1 by omega)
          have hg3 := set_far (cs' := #[.int .i64 R2.n, .slice A3 R2.l.length d3, .slice A4 R2.c.length d4]) hg2 (show b + 1 + 1 + 1 ≠ b + 1 by omega)
          have hd3 := set_far (cs' := #[.int .i64 R2.n, .slice A3 R2.l.length d3, .slice A4 R2.c.length d4]) hd2 (show b ≠ b + 1 by omega)
          have hn3 := Net.set (cs' := #[.int .i64 R2.n, .slice A3 R2.l.length d3, .slice A4 R2.c.length d4]) hn2 hy2 (by decide) (by decide)
          have hr3 := RS.set (cs' := #[.int .i64 R2.n, .slice A3 R2.l.length d3, .slice A4 R2.c.length d4]) hr2 hy2 (by decide) (by decide)
          have hB3 := set_below (cs' := #[.int .i64 R2.n, .slice A3 R2.l.length d3, .slice A4 R2.c.length d4]) hB2 (show w.heap.size ≤ b + 1 by omega)
          obtain ⟨W3, hW3⟩ : ∃ W3, W3 = w2.setRow (b + 1) #[.int .i64 R2.n, .slice A3 R2.l.length d3, .slice A4 R2.c.length d4] := ⟨_, rfl⟩
          rw [← hW3] at hst hy3 hx3 hm3 hg3 hd3 hn3 hr3 hB3
          have HST := hide hst
          have HX4 := hide hx3
          have HY4 := hide hy3
          have HM4 := hide hm3
          have HG4 := hide hg3
          have HD4 := hide hd3
          have HN4 := hide hn3
          have HR4 := hide hr3
          have HB4 := hide hB3
          have HRL := hide hrel2
          have HC2 := hide hc2'
          have hwW : w.heap.size ≤ W3.heap.size := HB4.out.size
          clear  hrel2 hc2' hb2 hr2 hx2 hy2 hm2 hg2 hd2 hn2 hB2 hst hy3 hx3 hm3 hg3 hd3 hn3 hr3 hB3 hW3
          have HNC := hide (spoil_net HN4.out d.a d.b d.c)
          have z0 := obj_cell HD4.out 0
          have z1 := obj_cell HD4.out 1
          have z2 := obj_cell HD4.out 2
          have z3 := obj_cell HD4.out 3
          simp only [List.getElem?_toArray, List.getElem?_cons_zero, List.getElem?_cons_succ] at z0 z1 z2 z3
          rw [hk4] at z0
          go_wp2_with (refine wpList_storev' rfl 120 (.tmp 9) (.tmp 103) rfl rfl rfl HST.out ?_)
          refine HNC.out.mono ?_
          rintro e w5 ⟨rfl, hn5, hk5⟩
          have hx5 := hk5.obj HX4.out (by decide) (by decide)
          have hy5 := hk5.obj HY4.out (by decide) (by decide)
          have hm5 := hk5.obj HM4.out (by decide) (by decide)
          have hg5 := hk5.obj HG4.out (by decide) (by decide)
          have hr5 := HR4.out.keep hk5
          have hB5 := KeepN.on HB4.out hwW hk5
          have HE := hide (show PnE w g bx b (k + 1) (.bool (anyY N)) (.bool (anyY N)) w5 from ⟨_, _, R2, _, _, msg0, _, rfl, rfl, rfl, hn5, HRL.out, hx5, hy5, hr5, hm5, hg5, by have := HC2.out; omega, hB5⟩)
          generalize anyY N = bb at HE ⊢
          clear hx5 hy5 hm5 hg5 hr5 hB5 hn5 hk5 HST HNC  z0 z1 z2 z3
          go_wp2
          go_meet
          case rel => exact HE.out
        have hkj4 : (d.kind == 4) = false := by simp [hk4]
        by_cases hk5 : d.kind = 5
        · have z0 := obj_cell HDB.out 0
          have z1 := obj_cell HDB.out 1
          have z2 := obj_cell HDB.out 2
          simp only [List.getElem?_toArray, List.getElem?_cons_zero, List.getElem?_cons_succ] at z0 z1 z2
          rw [hk5] at z0
          have HRS := hide (ref_cut HREL.out HR.out (by omega) d.a d.b true (cuL_len _ _ _))
          unfold rv at HRS
          have x0 := obj_cell HX.out 0
          have x1 := obj_cell HX.out 1
          have x2 := obj_cell HX.out 2
          simp only [List.getElem?_toArray, List.getElem?_cons_zero, List.getElem?_cons_succ] at x0 x1 x2
          go_wp2_with fail
          refine HRS.out.mono ?_
          rintro e w2 ⟨R2, vl2, vc2, rfl, hrel2, hr2, hc2', hb2⟩
          obtain ⟨A3, d3, A4, d4, ev, ew⟩ := hr2.slices
          subst ev ew
          clear HRS x0 x1 x2 z0 z1 z2
          have hx2 := obj_below HX.out hb2
          have hy2 := obj_below HYB.out hb2
          have hm2 := obj_below HMB.out hb2
          have hg2 := obj_below HGB.out hb2
          have hd2 := obj_below HDB.out hb2
          have hn2 := HN.out.below hb2
          have hB2 := HB.out.trans (hb2.mono HB.out.size)
          have hst := store_whole (P := Try.prog) (ty := 120) hy2 (cells := #[.int .i64 R2.n, .slice A3 R2.l.length d3, .slice A4 R2.c.length d4]) info120 rfl (by simp [Value.oneCell'])
          have hy3 := setRow_at' (C' := #[.int .i64 R2.n, .slice A3 R2.l.length d3, .slice A4 R2.c.length d4]) hy2
          have hx3 := set_far (cs' := #[.int .i64 R2.n, .slice A3 R2.l.length d3, .slice A4 R2.c.length d4]) hx2 (show bx ≠ b + 1 by omega)
          have hm3 := set_far (cs' := #[.int .i64 R2.n, .slice A3 R2.l.length d3, .slice A4 R2.c.length d4]) hm2 (show b + 1 + 1 ≠ b + 1 by omega)
          have hg3 := set_far (cs' := #[.int .i64 R2.n, .slice A3 R2.l.length d3, .slice A4 R2.c.length d4]) hg2 (show b + 1 + 1 + 1 ≠ b + 1 by omega)
          have hd3 := set_far (cs' := #[.int .i64 R2.n, .slice A3 R2.l.length d3, .slice A4 R2.c.length d4]) hd2 (show b ≠ b + 1 by omega)
          have hn3 := Net.set (cs' := #[.int .i64 R2.n, .slice A3 R2.l.length d3, .slice A4 R2.c.length d4]) hn2 hy2 (by decide) (by decide)
          have hr3 := RS.set (cs' := #[.int .i64 R2.n, .slice A3 R2.l.length d3, .slice A4 R2.c.length d4]) hr2 hy2 (by decide) (by decide)
          have hB3 := set_below (cs' := #[.int .i64 R2.n, .slice A3 R2.l.length d3, .slice A4 R2.c.length d4]) hB2 (show w.heap.size ≤ b + 1 by omega)
          obtain ⟨W3, hW3⟩ : ∃ W3, W3 = w2.setRow (b + 1) #[.int .i64 R2.n, .slice A3 R2.l.length d3, .slice A4 R2.c.length d4] := ⟨_, rfl⟩
          rw [← hW3] at hst hy3 hx3 hm3 hg3 hd3 hn3 hr3 hB3
          have HST := hide hst
          have HX4 := hide hx3
          have HY4 := hide hy3
          have HM4 := hide hm3
          have HG4 := hide hg3
          have HD4 := hide hd3
          have HN4 := hide hn3
          have HR4 := hide hr3
          have HB4 := hide hB3
          have HRL := hide hrel2
          have HC2 := hide hc2'
          have hwW : w.heap.size ≤ W3.heap.size := HB4.out.size
          clear  hrel2 hc2' hb2 hr2 hx2 hy2 hm2 hg2 hd2 hn2 hB2 hst hy3 hx3 hm3 hg3 hd3 hn3 hr3 hB3 hW3
          have HNC := hide (cut_net HN4.out d.a d.b true)
          have z0 := obj_cell HD4.out 0
          have z1 := obj_cell HD4.out 1
          have z2 := obj_cell HD4.out 2
          simp only [List.getElem?_toArray, List.getElem?_cons_zero, List.getElem?_cons_succ] at z0 z1 z2
          rw [hk5] at z0
          go_wp2_with (refine wpList_storev' rfl 120 (.tmp 9) (.tmp 126) rfl rfl rfl HST.out ?_)
          refine HNC.out.mono ?_
          rintro e w5 ⟨rfl, hn5, hk5⟩
          have hx5 := hk5.obj HX4.out (by decide) (by decide)
          have hy5 := hk5.obj HY4.out (by decide) (by decide)
          have hm5 := hk5.obj HM4.out (by decide) (by decide)
          have hg5 := hk5.obj HG4.out (by decide) (by decide)
          have hr5 := HR4.out.keep hk5
          have hB5 := KeepN.on HB4.out hwW hk5
          have HE := hide (show PnE w g bx b (k + 1) (.bool (cutY N d.a d.b)) (.bool (cutY N d.a d.b)) w5 from ⟨_, _, R2, _, _, msg0, _, rfl, rfl, rfl, hn5, HRL.out, hx5, hy5, hr5, hm5, hg5, by have := HC2.out; omega, hB5⟩)
          generalize cutY N d.a d.b = bb at HE ⊢
          clear hx5 hy5 hm5 hg5 hr5 hB5 hn5 hk5 HST HNC  z0 z1 z2
          go_wp2
          go_meet
          case rel => exact HE.out
        have hkj5 : (d.kind == 5) = false := by simp [hk5]
        by_cases hk6 : d.kind = 6
        · have z0 := obj_cell HDB.out 0
          have z1 := obj_cell HDB.out 1
          have z2 := obj_cell HDB.out 2
          simp only [List.getElem?_toArray, List.getElem?_cons_zero, List.getElem?_cons_succ] at z0 z1 z2
          rw [hk6] at z0
          have HRS := hide (ref_cut HREL.out HR.out (by omega) d.a d.b false (cuL_len _ _ _))
          unfold rv at HRS
          have x0 := obj_cell HX.out 0
          have x1 := obj_cell HX.out 1
          have x2 := obj_cell HX.out 2
          simp only [List.getElem?_toArray, List.getElem?_cons_zero, List.getElem?_cons_succ] at x0 x1 x2
          go_wp2_with fail
          refine HRS.out.mono ?_
          rintro e w2 ⟨R2, vl2, vc2, rfl, hrel2, hr2, hc2', hb2⟩
          obtain ⟨A3, d3, A4, d4, ev, ew⟩ := hr2.slices
          subst ev ew
          clear HRS x0 x1 x2 z0 z1 z2
          have hx2 := obj_below HX.out hb2
          have hy2 := obj_below HYB.out hb2
          have hm2 := obj_below HMB.out hb2
          have hg2 := obj_below HGB.out hb2
          have hd2 := obj_below HDB.out hb2
          have hn2 := HN.out.below hb2
          have hB2 := HB.out.trans (hb2.mono HB.out.size)
          have hst := store_whole (P := Try.prog) (ty := 120) hy2 (cells := #[.int .i64 R2.n, .slice A3 R2.l.length d3, .slice A4 R2.c.length d4]) info120 rfl (by simp [Value.oneCell'])
          have hy3 := setRow_at' (C' := #[.int .i64 R2.n, .slice A3 R2.l.length d3, .slice A4 R2.c.length d4]) hy2
          have hx3 := set_far (cs' := #[.int .i64 R2.n, .slice A3 R2.l.length d3, .slice A4 R2.c.length d4]) hx2 (show bx ≠ b + 1 by omega)
          have hm3 := set_far (cs' := #[.int .i64 R2.n, .slice A3 R2.l.length d3, .slice A4 R2.c.length d4]) hm2 (show b + 1 + 1 ≠ b + 1 by omega)
          have hg3 := set_far (cs' := #[.int .i64 R2.n, .slice A3 R2.l.length d3, .slice A4 R2.c.length d4]) hg2 (show b + 1 + 1 + 1 ≠ b + 1 by omega)
          have hd3 := set_far (cs' := #[.int .i64 R2.n, .slice A3 R2.l.length d3, .slice A4 R2.c.length d4]) hd2 (show b ≠ b + 1 by omega)
          have hn3 := Net.set (cs' := #[.int .i64 R2.n, .slice A3 R2.l.length d3, .slice A4 R2.c.length d4]) hn2 hy2 (by decide) (by decide)
          have hr3 := RS.set (cs' := #[.int .i64 R2.n, .slice A3 R2.l.length d3, .slice A4 R2.c.length d4]) hr2 hy2 (by decide) (by decide)
          have hB3 := set_below (cs' := #[.int .i64 R2.n, .slice A3 R2.l.length d3, .slice A4 R2.c.length d4]) hB2 (show w.heap.size ≤ b + 1 by omega)
          obtain ⟨W3, hW3⟩ : ∃ W3, W3 = w2.setRow (b + 1) #[.int .i64 R2.n, .slice A3 R2.l.length d3, .slice A4 R2.c.length d4] := ⟨_, rfl⟩
          rw [← hW3] at hst hy3 hx3 hm3 hg3 hd3 hn3 hr3 hB3
          have HST := hide hst
          have HX4 := hide hx3
          have HY4 := hide hy3
          have HM4 := hide hm3
          have HG4 := hide hg3
          have HD4 := hide hd3
          have HN4 := hide hn3
          have HR4 := hide hr3
          have HB4 := hide hB3
          have HRL := hide hrel2
          have HC2 := hide hc2'
          have hwW : w.heap.size ≤ W3.heap.size := HB4.out.size
          clear  hrel2 hc2' hb2 hr2 hx2 hy2 hm2 hg2 hd2 hn2 hB2 hst hy3 hx3 hm3 hg3 hd3 hn3 hr3 hB3 hW3
          have HNC := hide (cut_net HN4.out d.a d.b false)
          have z0 := obj_cell HD4.out 0
          have z1 := obj_cell HD4.out 1
          have z2 := obj_cell HD4.out 2
          simp only [List.getElem?_toArray, List.getElem?_cons_zero, List.getElem?_cons_succ] at z0 z1 z2
          rw [hk6] at z0
          go_wp2_with (refine wpList_storev' rfl 120 (.tmp 9) (.tmp 126) rfl rfl rfl HST.out ?_)
          refine HNC.out.mono ?_
          rintro e w5 ⟨rfl, hn5, hk5⟩
          have hx5 := hk5.obj HX4.out (by decide) (by decide)
          have hy5 := hk5.obj HY4.out (by decide) (by decide)
          have hm5 := hk5.obj HM4.out (by decide) (by decide)
          have hg5 := hk5.obj HG4.out (by decide) (by decide)
          have hr5 := HR4.out.keep hk5
          have hB5 := KeepN.on HB4.out hwW hk5
          have HE := hide (show PnE w g bx b (k + 1) (.bool (cutY N d.a d.b)) (.bool (cutY N d.a d.b)) w5 from ⟨_, _, R2, _, _, msg0, _, rfl, rfl, rfl, hn5, HRL.out, hx5, hy5, hr5, hm5, hg5, by have := HC2.out; omega, hB5⟩)
          generalize cutY N d.a d.b = bb at HE ⊢
          clear hx5 hy5 hm5 hg5 hr5 hB5 hn5 hk5 HST HNC  z0 z1 z2
          go_wp2
          go_meet
          case rel => exact HE.out
        have hkj6 : (d.kind == 6) = false := by simp [hk6]
        have z0 := obj_cell HDB.out 0
        simp only [List.getElem?_toArray, List.getElem?_cons_zero] at z0
        have HE := hide (show PnE w g bx b (k + 1) (.bool false) (.bool false) _ from ⟨false, N, R, _, _, msg0, _, rfl, rfl, rfl, HN.out, HREL.out, HX.out, HYB.out, HR.out, HMB.out, HGB.out, by omega, HB.out⟩)
        go_wp2
        go_meet
        case rel => exact HE.out
      case rest =>
      obtain ⟨bb, N2, R2, vl2, vc2, m, cx, rfl, rfl, hcx, hN2, hRel2, hX2, hY2, hR2, hM2, hG2, hc2, hB2⟩ := hcut
      obtain ⟨A1, c1, A2, c2, ev, ew⟩ := hR2.slices
      subst ev ew
      unfold rv at hY2
      have hll2 : N2.way.length = R2.l.length := hRel2.len
      obtain ⟨n1, hn1⟩ : ∃ n1, n1 = R2.l.length := ⟨_, rfl⟩
      rw [← hn1] at hY2 hR2 hll2
      have hbxw : bx < _ := obj_lt hX2
      have hst := store_whole (P := Try.prog) (ty := 120) hX2 (cells := #[.int .i64 R2.n, .slice A1 n1 c1, .slice A2 R2.c.length c2]) info120 (by rw [hcx]; rfl) (by simp [Value.oneCell'])
      have hx6 := setRow_at' (C' := #[.int .i64 R2.n, .slice A1 n1 c1, .slice A2 R2.c.length c2]) hX2
      have hm6 := set_far (cs' := #[.int .i64 R2.n, .slice A1 n1 c1, .slice A2 R2.c.length c2]) hM2 (show b + 1 + 1 ≠ bx by omega)
      have hg6 := set_far (cs' := #[.int .i64 R2.n, .slice A1 n1 c1, .slice A2 R2.c.length c2]) hG2 (show b + 1 + 1 + 1 ≠ bx by omega)
      have hn6 := Net.set (cs' := #[.int .i64 R2.n, .slice A1 n1 c1, .slice A2 R2.c.length c2]) hN2 hX2 (by decide) (by decide)
      have hr6 := RS.set (cs' := #[.int .i64 R2.n, .slice A1 n1 c1, .slice A2 R2.c.length c2]) hR2 hX2 (by decide) (by decide)
      have hB6 := set_below (cs' := #[.int .i64 R2.n, .slice A1 n1 c1, .slice A2 R2.c.length c2]) hB2 HBX.out.1
      have HLN : Hid (n1 ≤ 1024) := hide (hll2 ▸ hN2.2.1)
      have hnl : n1 ≤ 9223372036854775807 := by have := HLN.out; omega
      obtain ⟨W6, hW6⟩ : ∃ W6, W6 = wc.setRow bx #[.int .i64 R2.n, .slice A1 n1 c1, .slice A2 R2.c.length c2] := ⟨_, rfl⟩
      rw [← hW6] at hst hx6 hm6 hg6 hn6 hr6 hB6
      have hwt := waiting_net (show Net W6.drew w.heap.size g N2 from hn6)
      rw [hll2] at hwt
      have hrel := (show PnM w g bx (k + 1) N2 R2 (.slice A1 n1 c1) (.slice A2 R2.c.length c2) W6.drew from ⟨hn6, hRel2, hx6, hr6, hc2, hB6.trans ⟨rfl, rfl, rfl, Nat.le_refl _, fun _ _ => rfl⟩⟩)
      have HRL := hide hrel
      have HX6 := hide hx6
      have HM6 := hide (show W6.drew.heap[b + 1 + 1]? = _ from hm6)
      have HG6 := hide (show W6.drew.heap[b + 1 + 1 + 1]? = _ from hg6)
      have HX6 := hide (show W6.drew.heap[bx]? = _ from hx6)
      have HWT := hide hwt
      have HST := hide hst
      have HEQ := hide (fun wx => neq63 m wx)
      have hy0 := obj_cell hY2 0
      have hy1 := obj_cell hY2 1
      have hy2 := obj_cell hY2 2
      simp only [List.getElem?_toArray, List.getElem?_cons_zero, List.getElem?_cons_succ] at hy0 hy1 hy2
      clear hX2 hY2 hR2 hM2 hG2 hc2 hB2 hN2 hRel2 hcx hst hx6 hm6 hg6 hn6 hr6 hB6 hW6 hwt hrel hll2 hn1 HDB HYB HMB HGB HN HR HX HB
      go_wp2_with (refine wpList_storev' rfl 120 (.tmp 6) (.tmp 137) rfl rfl rfl HST.out ?_)
      clear hy0 hy1 hy2 HST
      refine wp_region_c (pnA n a l.length c k nn g bx b bb) (fun j => #[138, 139, 140, 141, 142, 143, 144, 145, 146, 147, 148, 149, 150, 151, 152, 153].getD j 0) (fun d x w8 => w8 = W6.drew) (fun qi qv => pnV g bx bb m A1 n1 c1 qi qv) (by kernel_rfl) (by kernel_rfl) rfl rfl ?_ ?_ ?_
      · exact fun u => ⟨fun x v => rfl, fun x v => rfl, fun x v => rfl, fun x v => rfl, fun x v => rfl, fun x v => rfl, fun x v => rfl, fun x v => rfl, fun x v => rfl, fun x v => rfl, fun x v => rfl, fun x v => rfl, fun x v => rfl, fun x v => rfl, fun x v => rfl, fun x v => rfl, trivial⟩
      · refine fun u => ⟨?_, ?_, ?_, ?_, ?_, ?_, ?_, ?_, ?_, ?_, ?_, ?_, ?_, ?_, ?_, ?_, trivial⟩
        · intro d x w' hS hdi hv hp hcl K hK
          obtain rfl := hS
          refine ⟨rfl, ?_⟩
          unfold pnA at hK ⊢
          go_wp2
          exact hK (.bool bb) _ rfl rfl
        · intro d x w' hS hdi hv hp hcl K hK
          obtain rfl := hS
          refine ⟨rfl, ?_⟩
          unfold pnA at hK ⊢
          go_wp2
          exact hK (.bool bb) _ rfl rfl
        · intro d x w' hS hdi hv hp hcl K hK
          have d0 : x 0 = .bool bb := hv 0 (hp 0 (by kernel_rfl))
          have d1 : x 1 = .bool bb := hv 1 (hp 1 (by kernel_rfl))
          obtain rfl := hS
          refine ⟨rfl, ?_⟩
          unfold pnA at hK ⊢
          simp only [d0, d1] at hK ⊢
          rcases bb with _ | _ <;> (go_wp2; exact hK (.bool false) _ rfl rfl)
        · intro d x w' hS hdi hv hp hcl K hK
          have d0 : x 2 = .bool false := hv 2 (hp 2 (by kernel_rfl))
          obtain rfl := hS
          refine ⟨rfl, ?_⟩
          unfold pnA at hK ⊢
          simp only [d0] at hK ⊢
          go_wp2
          exact hK (.bool false) _ rfl rfl
        · intro d x w' hS hdi hv hp hcl K hK
          have dg : x 3 = .bool false := hv 3 (hp 3 (by kernel_rfl))
          obtain rfl := hS
          have m0 := obj_cell HM6.out 0
          have m1 := obj_cell HM6.out 1
          have m2 := obj_cell HM6.out 2
          have m3 := obj_cell HM6.out 3
          have m4 := obj_cell HM6.out 4
          simp only [List.getElem?_toArray, List.getElem?_cons_zero, List.getElem?_cons_succ] at m0 m1 m2 m3 m4
          refine ⟨by unfold pnA; rw [dg]; rfl, ?_⟩
          unfold pnA at hK ⊢
          simp only [dg] at hK ⊢
          go_wp2
          exact hK (.agg #[.int .i64 m.k, .int .i64 m.f, .int .i64 m.t, .int .i64 m.i, .string m.b]) _ rfl rfl
        · intro d x w' hS hdi hv hp hcl K hK
          have dg : x 3 = .bool false := hv 3 (hp 3 (by kernel_rfl))
          obtain rfl := hS
          have m0 := obj_cell HG6.out 0
          have m1 := obj_cell HG6.out 1
          have m2 := obj_cell HG6.out 2
          have m3 := obj_cell HG6.out 3
          have m4 := obj_cell HG6.out 4
          simp only [List.getElem?_toArray, List.getElem?_cons_zero, List.getElem?_cons_succ] at m0 m1 m2 m3 m4
          refine ⟨by unfold pnA; rw [dg]; rfl, ?_⟩
          unfold pnA at hK ⊢
          simp only [dg] at hK ⊢
          go_wp2
          exact hK (.agg #[.int .i64 m.k, .int .i64 m.f, .int .i64 m.t, .int .i64 m.i, .string m.b]) _ rfl rfl
        · intro d x w' hS hdi hv hp hcl K hK
          have d0 : x 4 = .agg #[.int .i64 m.k, .int .i64 m.f, .int .i64 m.t, .int .i64 m.i, .string m.b] := hv 4 (hp 4 (by kernel_rfl))
          have d1 : x 5 = .agg #[.int .i64 m.k, .int .i64 m.f, .int .i64 m.t, .int .i64 m.i, .string m.b] := hv 5 (hp 5 (by kernel_rfl))
          have dg : x 3 = .bool false := hv 3 (hp 3 (by kernel_rfl))
          obtain rfl := hS
          refine ⟨by unfold pnA; rw [dg]; rfl, ?_⟩
          unfold pnA at hK ⊢
          simp only [d0, d1, dg] at hK ⊢
          exact wp_binop' .neq 63 (.tmp 142) (.tmp 143) 63 rfl rfl rfl (guard63n _ _ _ _ _) (HEQ.out _) (hK (.bool false) _ rfl rfl)
        · intro d x w' hS hdi hv hp hcl K hK
          have d0 : x 3 = .bool false := hv 3 (hp 3 (by kernel_rfl))
          have d1 : x 6 = .bool false := hv 6 (hp 6 (by kernel_rfl))
          obtain rfl := hS
          refine ⟨rfl, ?_⟩
          unfold pnA at hK ⊢
          simp only [d0, d1] at hK ⊢
          go_wp2
          exact hK (.bool false) _ rfl rfl
        · intro d x w' hS hdi hv hp hcl K hK
          have d0 : x 7 = .bool false := hv 7 (hp 7 (by kernel_rfl))
          obtain rfl := hS
          refine ⟨rfl, ?_⟩
          unfold pnA at hK ⊢
          simp only [d0] at hK ⊢
          go_wp2
          exact hK (.bool false) _ rfl rfl
        · intro d x w' hS hdi hv hp hcl K hK
          have dg : x 8 = .bool false := hv 8 (hp 8 (by kernel_rfl))
          obtain rfl := hS
          refine ⟨by unfold pnA; rw [dg]; rfl, ?_⟩
          unfold pnA at hK ⊢
          simp only [dg] at hK ⊢
          go_wp2
          exact hK (.pointer (some ⟨g, 0, none⟩)) _ rfl rfl
        · intro d x w' hS hdi hv hp hcl K hK
          have d0 : x 9 = .pointer (some ⟨g, 0, none⟩) := hv 9 (hp 9 (by kernel_rfl))
          have dg : x 8 = .bool false := hv 8 (hp 8 (by kernel_rfl))
          obtain rfl := hS
          refine ⟨by unfold pnA; rw [dg]; rfl, ?_⟩
          unfold pnA at hK ⊢
          simp only [d0, dg] at hK ⊢
          go_wp2_with fail
          refine HWT.out.mono ?_
          rintro e w2 ⟨rfl, rfl⟩
          exact hK (.int .i64 (n1 : Int)) _ rfl rfl
        · intro d x w' hS hdi hv hp hcl K hK
          have dg : x 8 = .bool false := hv 8 (hp 8 (by kernel_rfl))
          obtain rfl := hS
          refine ⟨by unfold pnA; rw [dg]; rfl, ?_⟩
          unfold pnA at hK ⊢
          simp only [dg] at hK ⊢
          go_wp2
          exact hK (.pointer (some ⟨bx, 1, none⟩)) _ rfl rfl
        · intro d x w' hS hdi hv hp hcl K hK
          have d0 : x 11 = .pointer (some ⟨bx, 1, none⟩) := hv 11 (hp 11 (by kernel_rfl))
          have dg : x 8 = .bool false := hv 8 (hp 8 (by kernel_rfl))
          obtain rfl := hS
          have m1 := obj_cell HX6.out 1
          simp only [List.getElem?_toArray, List.getElem?_cons_zero, List.getElem?_cons_succ] at m1
          refine ⟨by unfold pnA; rw [dg]; rfl, ?_⟩
          unfold pnA at hK ⊢
          simp only [d0, dg] at hK ⊢
          go_wp2
          exact hK (.slice A1 n1 c1) _ rfl rfl
        · intro d x w' hS hdi hv hp hcl K hK
          have d0 : x 12 = .slice A1 n1 c1 := hv 12 (hp 12 (by kernel_rfl))
          have dg : x 8 = .bool false := hv 8 (hp 8 (by kernel_rfl))
          obtain rfl := hS
          refine ⟨by unfold pnA; rw [dg]; rfl, ?_⟩
          unfold pnA at hK ⊢
          simp only [d0, dg] at hK ⊢
          go_wp2
          exact hK (.int .i64 (n1 : Int)) _ rfl rfl
        · intro d x w' hS hdi hv hp hcl K hK
          have d0 : x 10 = .int .i64 (n1 : Int) := hv 10 (hp 10 (by kernel_rfl))
          have d1 : x 13 = .int .i64 (n1 : Int) := hv 13 (hp 13 (by kernel_rfl))
          have dg : x 8 = .bool false := hv 8 (hp 8 (by kernel_rfl))
          obtain rfl := hS
          refine ⟨by unfold pnA; rw [dg]; rfl, ?_⟩
          unfold pnA at hK ⊢
          simp only [d0, d1, dg] at hK ⊢
          go_wp2
          exact hK (.bool false) _ rfl rfl
        · intro d x w' hS hdi hv hp hcl K hK
          have d0 : x 8 = .bool false := hv 8 (hp 8 (by kernel_rfl))
          have d1 : x 14 = .bool false := hv 14 (hp 14 (by kernel_rfl))
          obtain rfl := hS
          refine ⟨rfl, ?_⟩
          unfold pnA at hK ⊢
          simp only [d0, d1] at hK ⊢
          go_wp2
          exact hK (.bool false) _ rfl rfl
      · intro u hu d x w' hS hd hv
        have h15 : x 15 = .bool false := hv 15 (by decide)
        obtain rfl := hS
        clear hv hd
        unfold pnA
        rw [h15]
        clear hu
        go_wp2
        go_roundw
        case rel => exact ⟨k + 1, N2, R2, _, _, rfl, hkl, HRL.out⟩
        case measure => simp [intOf]; omega
    · obtain rfl : k = l.length := by omega
      have HB := hide hB
      go_wp2_with fail
      refine (awake13 _).mono ?_
      rintro e wz ⟨rfl, hbz⟩
      go_wp2
      go_ret
      exact ⟨rfl, HB.out.trans (hbz.mono HB.out.size)⟩
end Go.Proofs.Ytljmaicobafgkaa
end
