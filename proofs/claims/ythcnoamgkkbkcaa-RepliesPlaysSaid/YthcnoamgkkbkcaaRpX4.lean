/- Chapter 15, replies: the walk of RepliesPlays. -/
import Derived.Test.YthcnoamgkkbkcaaRpX1
import Derived.Test.YthcnoamgkkbkcaaRpR3
import Derived.Test.YthcnoamgkkbkcaaRpR4
namespace Go.Proofs.Ythcnoamgkkbkcaa
open Go.RowKit

/-- The program's calls, and the reference's in a variable. -/
structure PqR (w0 : World) (B g cm b6 : Nat) (C : Array Value) (S : RS) (W : World) : Prop where
  rr : RR w0 B g cm S W
  qr : QR W B C S
  o : W.heap[b6]? = some (.cells C 68 (0, 0))
section
variable {w0 W W' : World} {B g cm b6 : Nat} {C C' : Array Value} {S S' : RS}
theorem QR.kp (h : QR W B C S) (hk : KpR W W') : QR W' B C S :=
  ⟨h.sz, h.rm, fun c hc => by
    obtain ⟨v, h1, h2⟩ := h.L c hc
    refine ⟨v, h1, ?_⟩
    rcases h2 with h2 | ⟨b, o, cc, cur, e1, e2, e3, e4⟩
    · exact .inl h2
    · exact .inr ⟨b, o, cc, cur, e1, e2, hk _ _ _ _ e3 (by decide) (by decide), e4⟩⟩
theorem PqR.below (h : PqR w0 B g cm b6 C S W) (hb : Below W.heap.size W W') : PqR w0 B g cm b6 C S W' := ⟨h.rr.below hb, h.qr.below hb, obj_below h.o hb⟩
theorem RR.bsz (h : RR w0 B g cm S W) : B ≤ W.heap.size := by
  obtain ⟨f, hv⟩ := h.rv
  exact hv.bsz
/-- The reference's answer is kept in a new variable, and out of it in the old one. -/
theorem PqR.keep (h : RR w0 B g cm S W) (hq : QR W B C' S') (ho : W.heap[b6]? = some (.cells C 68 (0, 0))) (hs : C.size = 65) (hB : B ≤ b6) :
    ∃ w3 w4, (Instr.storeAt 68 (.pointer (some ⟨W.heap.size, 0, none⟩)) (.agg C')).run Try.prog (W.alloc (.cells Try.zeroCells68 68)) = .ok () w3 ∧ (Instr.loadAt 68 (.pointer (some ⟨W.heap.size, 0, none⟩))).run Try.prog w3 = .ok (.agg C') w3 ∧
      (Instr.storeAt 68 (.pointer (some ⟨b6, 0, none⟩)) (.agg C')).run Try.prog w3 = .ok () w4 ∧ RR w0 B g cm S w4 ∧ QR w4 B C' S' ∧ w4.heap[b6]? = some (.cells C' 68 (0, 0)) ∧ ∀ (q : Nat) (cs : Array Value) (ty : TypeId) (f : Nat × Nat), W.heap[q]? = some (.cells cs ty f) → ty ≠ 68 → w4.heap[q]? = some (.cells cs ty f) := by
  have hal := (Below.refl W.heap.size W).alloc (Nat.le_refl _) (.cells Try.zeroCells68 68)
  have hn := obj_new W (.cells Try.zeroCells68 68)
  have h1 := store68 hq (qr_zero W 0).sz hn
  have F1 := setRow_fr' (W.alloc (.cells Try.zeroCells68 68)) W.heap.size C'
  have hn3 := setRow_at' (C' := C') hn
  have hq1 := hq.below hal
  have hq3 := hq1.fr F1 (fun j cs e _ e2 => by
    rw [e2, hn] at e
    simp only [Option.some.injEq, Obj.cells.injEq] at e
    exact absurd e.2.1 (by decide))
  have hlt := obj_lt ho
  have ho3 := F1.obj (obj_alloc ho (.cells Try.zeroCells68 68)) (by omega)
  have h3 := store68 hq3 hs ho3
  have F2 := setRow_fr' ((W.alloc (.cells Try.zeroCells68 68)).setRow W.heap.size C') b6 C'
  refine ⟨_, _, h1, load68 hq3 hn3, h3, ?_, hq3.fr F2 (fun j cs e _ e2 => ?_), setRow_at' ho3, fun q cs ty f e hty => ?_⟩
  · refine ((h.below hal).fr F1 (fun j e => ?_)).fr F2 (fun j e => ?_)
    · rw [e]
      exact ⟨h.bsz, _, _, _, hn, by decide, by decide⟩
    · rw [e]
      exact ⟨hB, _, _, _, ho3, by decide, by decide⟩
  · rw [e2, ho3] at e
    simp only [Option.some.injEq, Obj.cells.injEq] at e
    exact absurd e.2.1 (by decide)
  · have hq0 := obj_lt e
    refine F2.obj (F1.obj (obj_alloc e _) (by omega)) (fun e2 => ?_)
    rw [e2, ho] at e
    simp only [Option.some.injEq, Obj.cells.injEq] at e
    exact hty e.2.1.symm
end
def PlR (w : World) (g cm b6 n : Nat) (wr : World) (iv : Value) : Prop :=
  ∃ (k : Nat) (S : RS) (C : Array Value), iv = .int .i64 (k : Int) ∧ k ≤ n ∧ PqR w w.heap.size g cm b6 C S wr
/-- Both tell which are kept. -/
structure PyR (wq : World) (X : List Int) (d3 d7 : Bool) (x3 x7 : Value) (w : World) : Prop where
  b : Below wq.heap.size wq w
  r : d3 = true → kI.row w wq.heap.size x3 X
  q : d7 = true → kI.row w wq.heap.size x7 X
def plA (g b6 qb k ll lcap : Nat) (a0 : Addr) (room : Int) (C0 : Array Value) (u x : Nat → Value) : Act := ⟨#[.int .i64 room, .slice (some a0) ll lcap, undef, undef, u 4, .pointer (some ⟨g, 0, none⟩), .pointer (some ⟨b6, 0, none⟩), .int .i64 (k : Int), .pointer (some ⟨qb, 0, none⟩), u 9, u 10, u 11, u 12, u 13, u 14, u 15, .slice (some a0) ll lcap, .int .i64 1, .bool false, undef, .int .i64 room, .pointer (some ⟨g, 0, none⟩), .int .i64 room, .agg C0, u 24, u 25, u 26, u 27, u 28, u 29, u 30, u 31, u 32, u 33, u 34, u 35, u 36, u 37, u 38, u 39, u 40, u 41, u 42, u 43, u 44, u 45, u 46, u 47, u 48, u 49, u 50, u 51, u 52, u 53, u 54, u 55, u 56, u 57, u 58, u 59, u 60, u 61, u 62, u 63, u 64, u 65, u 66, u 67, u 68, u 69, u 70, u 71, u 72, u 73, u 74, u 75, u 76, u 77, u 78, u 79, u 80, u 81, u 82, u 83, u 84, u 85, u 86, x 0, x 1, x 2, x 3, x 4, x 5, x 6, x 7, x 8, x 9, undef, undef, undef, undef, undef, undef, undef, undef], []⟩
def plV (g qb : Nat) (dc : Int) (C1 : Array Value) (qx : Nat) (qw : Value) : Prop :=
  match qx with
  | 0 => qw = .pointer (some ⟨g, 0, none⟩)
  | 1 => qw = .pointer (some ⟨qb, 1, none⟩)
  | 2 => qw = .int .i64 dc
  | 4 => qw = .agg C1
  | 5 => qw = .pointer (some ⟨qb, 1, none⟩)
  | 6 => qw = .int .i64 dc
  | 8 => qw = .bool true
  | 9 => qw = .bool false
  | _ => True
def pfA (g b6 : Nat) (u x : Nat → Value) : Act := ⟨#[u 0, u 1, u 2, u 3, x 8, .pointer (some ⟨g, 0, none⟩), .pointer (some ⟨b6, 0, none⟩), u 7, u 8, u 9, u 10, u 11, u 12, u 13, u 14, u 15, u 16, u 17, u 18, u 19, u 20, u 21, u 22, u 23, u 24, u 25, u 26, u 27, u 28, u 29, u 30, u 31, u 32, u 33, u 34, u 35, u 36, u 37, u 38, u 39, u 40, u 41, u 42, u 43, u 44, u 45, u 46, u 47, u 48, u 49, u 50, u 51, u 52, u 53, u 54, u 55, u 56, u 57, u 58, u 59, u 60, u 61, u 62, u 63, u 64, u 65, u 66, u 67, u 68, u 69, u 70, u 71, u 72, u 73, u 74, u 75, u 76, u 77, u 78, u 79, u 80, u 81, u 82, u 83, u 84, u 85, u 86, u 87, u 88, u 89, u 90, u 91, u 92, u 93, u 94, u 95, u 96, x 0, x 1, x 2, x 3, x 4, x 5, x 6, x 7], []⟩
def pfV (g : Nat) (T : ByteArray) (C : Array Value) (qx : Nat) (qw : Value) : Prop :=
  match qx with
  | 0 => qw = .pointer (some ⟨g, 0, none⟩)
  | 1 => qw = .string T
  | 2 => qw = .agg C
  | 3 => qw = .string T
  | 4 => qw = .bool true
  | 5 => qw = .bool true
  | 6 => qw = .bool true
  | 7 => qw = .bool true
  | 8 => qw = .bool true
  | _ => True
set_option maxHeartbeats 32000000 in
set_option maxRecDepth 100000 in
theorem walk_repliesPlays (room : Int) (v : Value) (l : List RDeed) (w : World) (_hr : (Lit.int .i64 room).wf = true) (hv : RDeedArg w v l) (_hz : ∀ x ∈ l, x.wf) :
    Calls Try.prog 7 #[.int .i64 room, v] w fun e w' => e = .returned (.bool true) ∧ Below w.heap.size w w' := by
  have AW := hide (fun W => awake15 W)
  have HFW := hide (few15_any hv)
  obtain ⟨LA, lcap, rfl⟩ := hv.slice
  have hlm := hv.len
  simp only [maxLen] at hlm
  have HV := hide hv
  have HCAP := hide hv.cap
  obtain ⟨ll, hll⟩ : ∃ ll, ll = l.length := ⟨_, rfl⟩
  rw [← hll] at hlm HV HFW HCAP ⊢
  have HLL := hide hll
  clear hv hll _hz _hr
  have HN := hide (new_rr room w)
  obtain ⟨C0, hC0⟩ : ∃ C, C = Try.zeroCells68.setIfInBounds 0 (.int .i64 (min (max room 1) 16)) := ⟨_, rfl⟩
  have HNQ := hide (fun W => newQ_any room W)
  rw [← hC0] at HNQ
  have HC0 := hide hC0
  clear hC0
  go_enter Try.func7, Try.ntmps7
  go_wp2_with fail
  refine HFW.out.mono ?_
  rintro e w1 ⟨(rfl | ⟨rfl, hbig⟩), rfl⟩
  · go_wp2_with fail
    refine (AW.out _).mono ?_
    rintro e w2 ⟨rfl, hb⟩
    go_wp2
    go_ret
    exact ⟨rfl, hb⟩
  go_wp2_with fail
  refine HN.out.mono ?_
  rintro e w1 ⟨g, cm, rfl, h1⟩
  have HC1 := hide h1
  clear h1 HN
  go_wp2_with fail
  refine (HNQ.out w1).mono ?_
  rintro e w2 ⟨rfl, hb2⟩
  have hr2 := HC1.out.below hb2
  have hq2 : QR w2 w.heap.size C0 (newR room) := by rw [HC0.out]; exact qr_room _ _ _
  have hal := (Below.refl w2.heap.size w2).alloc (Nat.le_refl _) (.cells Try.zeroCells68 68)
  have hn := obj_new w2 (.cells Try.zeroCells68 68)
  have hst := store68 hq2 (qr_zero w2 0).sz hn
  have F1 := setRow_fr' (w2.alloc (.cells Try.zeroCells68 68)) w2.heap.size C0
  have hr3 := (hr2.below hal).fr F1 (fun j e => by
    rw [e]
    exact ⟨hr2.bsz, _, _, _, hn, by decide, by decide⟩)
  have hq3 := (hq2.below hal).fr F1 (fun j cs e _ e2 => by
    rw [e2, hn] at e
    simp only [Option.some.injEq, Obj.cells.injEq] at e
    exact absurd e.2.1 (by decide))
  obtain ⟨w3, hw3⟩ : ∃ W, W = (w2.alloc (.cells Try.zeroCells68 68)).setRow w2.heap.size C0 := ⟨_, rfl⟩
  have hn3 := setRow_at' (C' := C0) hn
  rw [← hw3] at hst hr3 hq3 hn3
  obtain ⟨b6, hb6⟩ : ∃ b, b = w2.heap.size := ⟨_, rfl⟩
  have hbs : w.heap.size ≤ b6 := by rw [hb6]; exact hr2.bsz
  rw [← hb6] at hn3
  have HS := hide (show PlR w g cm b6 ll w3 (.int .i64 0) from ⟨0, _, C0, rfl, Nat.zero_le _, hr3, hq3, hn3⟩)
  have HBS := hide hbs
  have HST := hide hst
  have HB6 := hide hb6
  clear hb2 hr2 hq2 hal hn hst F1 hr3 hq3 hw3 hn3 hbs hb6
  go_wp2_with (refine wpList_storeW ?_ 68 (.tmp 6) (.tmp 23) ?_ ?_ ?_ HST.out ?_ ?_; rfl; rfl; rfl; rfl; rfl)
  rw [← HB6.out]
  go_loopw [7] (fun iv wr => PlR w g cm b6 ll wr iv) (fun iv _ => ll - (intOf iv).toNat)
  case atStart => exact HS.out
  case round =>
    obtain ⟨k, S, C, rfl, hk, hpq⟩ := hrel
    rcases Nat.lt_or_ge k ll with hkl | hkl
    · have hb := hpq.rr.b
      obtain ⟨a0, cap0, e0, hc1, hc2, q0, q1, q2, q3⟩ := (HV.out.below hb).cells (k := k) (by have := HLL.out; omega)
      injection e0 with e0a e0b e0c
      subst e0a e0c
      simp only [maxLen] at hc2
      obtain ⟨d, hde⟩ : ∃ d, d = l[k]'(by have := HLL.out; omega) := ⟨_, rfl⟩
      rw [← hde] at q0 q1 q2 q3
      obtain ⟨kd, dc, di, dr⟩ := d
      simp only at q0 q1 q2 q3
      have hcapi : ll ≤ lcap := by have := HLL.out; omega
      have hkli : (k : Int) < (ll : Int) := by omega
      have hal := (Below.refl wr.heap.size wr).alloc (Nat.le_refl _) (.cells #[.int .i64 kd, .int .i64 dc, .int .i64 di, .string dr] 71)
      have oq := obj_new wr (.cells #[.int .i64 kd, .int .i64 dc, .int .i64 di, .string dr] 71)
      have hpq1 := hpq.below hal
      have HOM := hide oq
      have HPQ1 := hide hpq1
      have HLD6 := hide (load68 hpq1.qr hpq1.o)
      obtain ⟨qb, hqb⟩ : ∃ b, b = wr.heap.size := ⟨_, rfl⟩
      have HQB := hide hqb.symm
      clear hde hc1 hb hal oq hpq hpq1 e0b hqb
      by_cases h1 : kd = 1
      · subst h1
        have HPT := hide (putQ_any HPQ1.out.qr HPQ1.out.rr.ok HPQ1.out.rr.bsz dc di dr)
        have HPP := hide (fun (W : World) (h : RR w w.heap.size g cm S W) => put_rr h dc di dr)
        obtain ⟨PP, hPP⟩ : ∃ P, P = rPut S dc di dr := ⟨_, rfl⟩
        rw [← hPP] at HPT HPP
        obtain ⟨S1, is⟩ := PP
        simp only at HPT HPP
        clear hPP
        go_wp2_with (refine wpList_loadW ?_ 68 (.tmp 6) ?_ ?_ HLD6.out ?_ ?_; rfl; rfl; rfl; rfl)
        refine HPT.out.mono ?_
        rintro e w2 ⟨C1, rfl, hq2, hb2⟩
        obtain ⟨w3, w4, p1, p2, p3, p4, p5, p6, p7⟩ := PqR.keep (HPQ1.out.rr.below hb2) hq2 (obj_below HPQ1.out.o hb2) HPQ1.out.qr.sz HBS.out
        have om4 := p7 _ _ _ _ (obj_below HOM.out hb2) (by decide)
        have y1 := obj_cell om4 1
        have y2 := obj_cell om4 2
        have y3 := obj_cell om4 3
        simp only [List.getElem?_toArray, List.getElem?_cons_zero, List.getElem?_cons_succ] at y1 y2 y3
        have HOM4 := hide om4
        have P1 := hide p1
        have P2 := hide p2
        have P3 := hide p3
        have P4 := hide p4
        have P5 := hide p5
        have P6 := hide p6
        clear hq2 hb2 p1 p2 p3 p4 p5 p6 p7 om4 q0 q1 q2 q3
        go_wp2_with (first | (refine wpList_storeW ?_ 68 (.tmp 9) (.tmp 46) ?_ ?_ ?_ P1.out ?_ ?_; rfl; rfl; rfl; rfl; rfl) | (refine wpList_loadW ?_ 68 (.tmp 9) ?_ ?_ P2.out ?_ ?_; rfl; rfl; rfl; rfl) | (refine wpList_storeW ?_ 68 (.tmp 6) (.tmp 48) ?_ ?_ ?_ P3.out ?_ ?_; rfl; rfl; rfl; rfl; rfl))
        refine (HPP.out w4 P4.out).mono ?_
        rintro e w5 ⟨rfl, hr5, hk5, hb5⟩
        have om5 := hk5 _ _ _ _ HOM4.out (by decide) (by decide)
        have hpq : PqR w w.heap.size g cm b6 C1 S1 w5 := ⟨hr5, P5.out.kp hk5, hk5 _ _ _ _ P6.out (by decide) (by decide)⟩
        clear hr5 hk5 hb5 y1 y2 y3
        have HPQ := hide hpq
        rw [HQB.out] at om5
        have HOQ := hide om5
        obtain ⟨X, hX⟩ : ∃ X, X = rIds S1 dc := ⟨_, rfl⟩
        have HX := hide hX
        clear hpq om5 hX
        go_wp2_with fail
        obtain ⟨wq, hwq⟩ : ∃ W, W = w5 := ⟨_, rfl⟩
        rw [← hwq] at HPQ HOQ ⊢
        have hqb : wr.heap.size = qb := HQB.out
        clear hwq
        rw [hqb]
        clear hqb
        refine wp_region_c (plA g b6 qb k ll lcap a0 room C0) (fun j => #[87, 88, 89, 90, 91, 92, 93, 94, 95, 96].getD j 0) (fun d x w' => PyR wq X (d 3) (d 7) (x 3) (x 7) w') (fun qi qv => plV g qb dc C1 qi qv) (by kernel_rfl) (by kernel_rfl) rfl ⟨(Below.refl _ _).drew, (fun e => by cases e), (fun e => by cases e)⟩ ?_ ?_ ?_
        · exact fun u => ⟨fun x v => rfl, fun x v => rfl, fun x v => rfl, fun x v => rfl, fun x v => rfl, fun x v => rfl, fun x v => rfl, fun x v => rfl, fun x v => rfl, fun x v => rfl, trivial⟩
        · refine fun u => ⟨?_, ?_, ?_, ?_, ?_, ?_, ?_, ?_, ?_, ?_, trivial⟩
          · intro d x w' hS hdi hv hp hcl K hK
            have hS1 : PyR wq X (d 3) (d 7) (x 3) (x 7) w' := hS
            refine ⟨rfl, ?_⟩
            unfold plA at hK ⊢
            go_wp2
            exact hK (.pointer (some ⟨g, 0, none⟩)) w' (show PyR wq X (d 3) (d 7) (x 3) (x 7) w' from hS1) rfl
          · intro d x w' hS hdi hv hp hcl K hK
            have hS1 : PyR wq X (d 3) (d 7) (x 3) (x 7) w' := hS
            refine ⟨rfl, ?_⟩
            unfold plA at hK ⊢
            go_wp2
            exact hK (.pointer (some ⟨qb, 1, none⟩)) w' (show PyR wq X (d 3) (d 7) (x 3) (x 7) w' from hS1) rfl
          · intro d x w' hS hdi hv hp hcl K hK
            have d0 : x 1 = .pointer (some ⟨qb, 1, none⟩) := hv 1 (hp 1 (by kernel_rfl))
            have hS1 : PyR wq X (d 3) (d 7) (x 3) (x 7) w' := hS
            have zq := obj_cell (obj_below HOQ.out hS1.b) 1
            simp only [List.getElem?_toArray, List.getElem?_cons_zero, List.getElem?_cons_succ] at zq
            refine ⟨rfl, ?_⟩
            unfold plA at hK ⊢
            simp only [d0] at hK ⊢
            go_wp2
            exact hK (.int .i64 dc) w' (show PyR wq X (d 3) (d 7) (x 3) (x 7) w' from hS1) rfl
          · intro d x w' hS hdi hv hp hcl K hK
            have d0 : x 0 = .pointer (some ⟨g, 0, none⟩) := hv 0 (hp 0 (by kernel_rfl))
            have d1 : x 2 = .int .i64 dc := hv 2 (hp 2 (by kernel_rfl))
            have hS1 : PyR wq X (d 3) (d 7) (x 3) (x 7) w' := hS
            refine ⟨rfl, ?_⟩
            unfold plA at hK ⊢
            simp only [d0, d1] at hK ⊢
            go_wp2_with fail
            refine (ids_rr (HPQ.out.rr.below hS1.b) dc).mono ?_
            rintro e w3 ⟨av, rfl, hr, -, hb⟩
            rw [← HX.out] at hr
            exact hK av w3 (show PyR wq X true (d 7) av (x 7) w3 from ⟨hS1.b.trans (hb.mono hS1.b.size), fun _ => EK.row_base hr hS1.b.size, fun e => EK.row_below (hS1.q e) hb⟩) trivial
          · intro d x w' hS hdi hv hp hcl K hK
            have hS1 : PyR wq X (d 3) (d 7) (x 3) (x 7) w' := hS
            refine ⟨rfl, ?_⟩
            unfold plA at hK ⊢
            refine wp_loadv 68 (.tmp 6) rfl rfl (load68 HPQ.out.qr (obj_below HPQ.out.o hS1.b)) ?_
            exact hK _ w' (show PyR wq X (d 3) (d 7) (x 3) (x 7) w' from hS1) rfl
          · intro d x w' hS hdi hv hp hcl K hK
            have hS1 : PyR wq X (d 3) (d 7) (x 3) (x 7) w' := hS
            refine ⟨rfl, ?_⟩
            unfold plA at hK ⊢
            go_wp2
            exact hK (.pointer (some ⟨qb, 1, none⟩)) w' (show PyR wq X (d 3) (d 7) (x 3) (x 7) w' from hS1) rfl
          · intro d x w' hS hdi hv hp hcl K hK
            have d0 : x 5 = .pointer (some ⟨qb, 1, none⟩) := hv 5 (hp 5 (by kernel_rfl))
            have hS1 : PyR wq X (d 3) (d 7) (x 3) (x 7) w' := hS
            have zq := obj_cell (obj_below HOQ.out hS1.b) 1
            simp only [List.getElem?_toArray, List.getElem?_cons_zero, List.getElem?_cons_succ] at zq
            refine ⟨rfl, ?_⟩
            unfold plA at hK ⊢
            simp only [d0] at hK ⊢
            go_wp2
            exact hK (.int .i64 dc) w' (show PyR wq X (d 3) (d 7) (x 3) (x 7) w' from hS1) rfl
          · intro d x w' hS hdi hv hp hcl K hK
            have d0 : x 4 = .agg C1 := hv 4 (hp 4 (by kernel_rfl))
            have d1 : x 6 = .int .i64 dc := hv 6 (hp 6 (by kernel_rfl))
            have hS1 : PyR wq X (d 3) (d 7) (x 3) (x 7) w' := hS
            refine ⟨rfl, ?_⟩
            unfold plA at hK ⊢
            simp only [d0, d1] at hK ⊢
            go_wp2_with fail
            refine (idsQ_any (HPQ.out.qr.below hS1.b) HPQ.out.rr.ok dc).mono ?_
            rintro e w3 ⟨av, rfl, hr, hb⟩
            rw [← HX.out] at hr
            exact hK av w3 (show PyR wq X (d 3) true (x 3) av w3 from ⟨hS1.b.trans (hb.mono hS1.b.size), fun e => EK.row_below (hS1.r e) hb, fun _ => EK.row_base hr hS1.b.size⟩) trivial
          · intro d x w' hS hdi hv hp hcl K hK
            have hS1 : PyR wq X (d 3) (d 7) (x 3) (x 7) w' := hS
            have y3 : d 3 = true := hp 3 (by kernel_rfl)
            have y7 : d 7 = true := hp 7 (by kernel_rfl)
            refine ⟨rfl, ?_⟩
            unfold plA at hK ⊢
            go_wp2_with fail
            refine (ints_yes (hS1.r y3) (hS1.q y7)).mono ?_
            rintro e w3 ⟨rfl, hb⟩
            exact hK (.bool true) w3 (show PyR wq X (d 3) (d 7) (x 3) (x 7) w3 from ⟨hS1.b.trans (hb.mono hS1.b.size), fun e => EK.row_below (hS1.r e) hb, fun e => EK.row_below (hS1.q e) hb⟩) rfl
          · intro d x w' hS hdi hv hp hcl K hK
            have d0 : x 8 = .bool true := hv 8 (hp 8 (by kernel_rfl))
            have hS1 : PyR wq X (d 3) (d 7) (x 3) (x 7) w' := hS
            refine ⟨rfl, ?_⟩
            unfold plA at hK ⊢
            simp only [d0] at hK ⊢
            go_wp2
            exact hK (.bool false) w' (show PyR wq X (d 3) (d 7) (x 3) (x 7) w' from hS1) rfl
        · intro u hu d x w6 hS hd hv
          have hS1 : PyR wq X (d 3) (d 7) (x 3) (x 7) w6 := hS
          have e9 : x 9 = .bool false := hv 9 (by decide)
          have HRES := hide (show PlR w g cm b6 ll w6 (.int .i64 ((k : Int) + 1)) from ⟨k + 1, S1, C1, rfl, hkl, HPQ.out.below hS1.b⟩)
          clear hS hS1 hd hv hu
          unfold plA
          simp only [e9]
          clear e9
          go_wp2_with fail
          exact ⟨HRES.out, by simp only [intOf]; omega⟩
      · have h1b : (kd == 1) = false := by simpa using h1
        have HPT := hide (takeQ_any HPQ1.out.qr HPQ1.out.rr.ok HPQ1.out.rr.bsz dc di)
        have HPP := hide (fun (W : World) (h : RR w w.heap.size g cm S W) => take_rr h dc di)
        obtain ⟨PP, hPP⟩ : ∃ P, P = rTake S dc di := ⟨_, rfl⟩
        rw [← hPP] at HPT HPP
        obtain ⟨S1, how, rp⟩ := PP
        simp only at HPT HPP
        clear hPP h1
        go_wp2_with (refine wpList_loadW ?_ 68 (.tmp 6) ?_ ?_ HLD6.out ?_ ?_; rfl; rfl; rfl; rfl)
        refine HPT.out.mono ?_
        rintro e w2 ⟨C1, rfl, hq2, hb2⟩
        obtain ⟨w3, w4, p1, p2, p3, p4, p5, p6, p7⟩ := PqR.keep (HPQ1.out.rr.below hb2) hq2 (obj_below HPQ1.out.o hb2) HPQ1.out.qr.sz HBS.out
        have om4 := p7 _ _ _ _ (obj_below HOM.out hb2) (by decide)
        have y1 := obj_cell om4 1
        have y2 := obj_cell om4 2
        have y3 := obj_cell om4 3
        simp only [List.getElem?_toArray, List.getElem?_cons_zero, List.getElem?_cons_succ] at y1 y2 y3
        have HOM4 := hide om4
        have P1 := hide p1
        have P2 := hide p2
        have P3 := hide p3
        have P4 := hide p4
        have P5 := hide p5
        have P6 := hide p6
        clear hq2 hb2 p1 p2 p3 p4 p5 p6 p7 om4 q0 q1 q2 q3
        go_wp2_with (first | (refine wpList_storeW ?_ 68 (.tmp 11) (.tmp 66) ?_ ?_ ?_ P1.out ?_ ?_; rfl; rfl; rfl; rfl; rfl) | (refine wpList_loadW ?_ 68 (.tmp 11) ?_ ?_ P2.out ?_ ?_; rfl; rfl; rfl; rfl) | (refine wpList_storeW ?_ 68 (.tmp 6) (.tmp 69) ?_ ?_ ?_ P3.out ?_ ?_; rfl; rfl; rfl; rfl; rfl))
        refine (HPP.out w4 P4.out).mono ?_
        rintro e w5 ⟨rfl, hr5, hk5, hb5⟩
        have om5 := hk5 _ _ _ _ HOM4.out (by decide) (by decide)
        have hpq : PqR w w.heap.size g cm b6 C1 S1 w5 := ⟨hr5, P5.out.kp hk5, hk5 _ _ _ _ P6.out (by decide) (by decide)⟩
        clear hr5 hk5 hb5 y1 y2 y3
        have HPQ := hide hpq
        rw [HQB.out] at om5
        have HOQ := hide om5
        obtain ⟨X, hX⟩ : ∃ X, X = rIds S1 dc := ⟨_, rfl⟩
        have HX := hide hX
        clear hpq om5 hX
        go_wp2_with fail
        obtain ⟨wq, hwq⟩ : ∃ W, W = w5 := ⟨_, rfl⟩
        rw [← hwq] at HPQ HOQ ⊢
        have hqb : wr.heap.size = qb := HQB.out
        clear hwq
        rw [hqb]
        clear hqb
        refine wp_region_c (plA g b6 qb k ll lcap a0 room C0) (fun j => #[87, 88, 89, 90, 91, 92, 93, 94, 95, 96].getD j 0) (fun d x w' => PyR wq X (d 3) (d 7) (x 3) (x 7) w') (fun qi qv => plV g qb dc C1 qi qv) (by kernel_rfl) (by kernel_rfl) rfl ⟨(Below.refl _ _).drew, (fun e => by cases e), (fun e => by cases e)⟩ ?_ ?_ ?_
        · exact fun u => ⟨fun x v => rfl, fun x v => rfl, fun x v => rfl, fun x v => rfl, fun x v => rfl, fun x v => rfl, fun x v => rfl, fun x v => rfl, fun x v => rfl, fun x v => rfl, trivial⟩
        · refine fun u => ⟨?_, ?_, ?_, ?_, ?_, ?_, ?_, ?_, ?_, ?_, trivial⟩
          · intro d x w' hS hdi hv hp hcl K hK
            have hS1 : PyR wq X (d 3) (d 7) (x 3) (x 7) w' := hS
            refine ⟨rfl, ?_⟩
            unfold plA at hK ⊢
            go_wp2
            exact hK (.pointer (some ⟨g, 0, none⟩)) w' (show PyR wq X (d 3) (d 7) (x 3) (x 7) w' from hS1) rfl
          · intro d x w' hS hdi hv hp hcl K hK
            have hS1 : PyR wq X (d 3) (d 7) (x 3) (x 7) w' := hS
            refine ⟨rfl, ?_⟩
            unfold plA at hK ⊢
            go_wp2
            exact hK (.pointer (some ⟨qb, 1, none⟩)) w' (show PyR wq X (d 3) (d 7) (x 3) (x 7) w' from hS1) rfl
          · intro d x w' hS hdi hv hp hcl K hK
            have d0 : x 1 = .pointer (some ⟨qb, 1, none⟩) := hv 1 (hp 1 (by kernel_rfl))
            have hS1 : PyR wq X (d 3) (d 7) (x 3) (x 7) w' := hS
            have zq := obj_cell (obj_below HOQ.out hS1.b) 1
            simp only [List.getElem?_toArray, List.getElem?_cons_zero, List.getElem?_cons_succ] at zq
            refine ⟨rfl, ?_⟩
            unfold plA at hK ⊢
            simp only [d0] at hK ⊢
            go_wp2
            exact hK (.int .i64 dc) w' (show PyR wq X (d 3) (d 7) (x 3) (x 7) w' from hS1) rfl
          · intro d x w' hS hdi hv hp hcl K hK
            have d0 : x 0 = .pointer (some ⟨g, 0, none⟩) := hv 0 (hp 0 (by kernel_rfl))
            have d1 : x 2 = .int .i64 dc := hv 2 (hp 2 (by kernel_rfl))
            have hS1 : PyR wq X (d 3) (d 7) (x 3) (x 7) w' := hS
            refine ⟨rfl, ?_⟩
            unfold plA at hK ⊢
            simp only [d0, d1] at hK ⊢
            go_wp2_with fail
            refine (ids_rr (HPQ.out.rr.below hS1.b) dc).mono ?_
            rintro e w3 ⟨av, rfl, hr, -, hb⟩
            rw [← HX.out] at hr
            exact hK av w3 (show PyR wq X true (d 7) av (x 7) w3 from ⟨hS1.b.trans (hb.mono hS1.b.size), fun _ => EK.row_base hr hS1.b.size, fun e => EK.row_below (hS1.q e) hb⟩) trivial
          · intro d x w' hS hdi hv hp hcl K hK
            have hS1 : PyR wq X (d 3) (d 7) (x 3) (x 7) w' := hS
            refine ⟨rfl, ?_⟩
            unfold plA at hK ⊢
            refine wp_loadv 68 (.tmp 6) rfl rfl (load68 HPQ.out.qr (obj_below HPQ.out.o hS1.b)) ?_
            exact hK _ w' (show PyR wq X (d 3) (d 7) (x 3) (x 7) w' from hS1) rfl
          · intro d x w' hS hdi hv hp hcl K hK
            have hS1 : PyR wq X (d 3) (d 7) (x 3) (x 7) w' := hS
            refine ⟨rfl, ?_⟩
            unfold plA at hK ⊢
            go_wp2
            exact hK (.pointer (some ⟨qb, 1, none⟩)) w' (show PyR wq X (d 3) (d 7) (x 3) (x 7) w' from hS1) rfl
          · intro d x w' hS hdi hv hp hcl K hK
            have d0 : x 5 = .pointer (some ⟨qb, 1, none⟩) := hv 5 (hp 5 (by kernel_rfl))
            have hS1 : PyR wq X (d 3) (d 7) (x 3) (x 7) w' := hS
            have zq := obj_cell (obj_below HOQ.out hS1.b) 1
            simp only [List.getElem?_toArray, List.getElem?_cons_zero, List.getElem?_cons_succ] at zq
            refine ⟨rfl, ?_⟩
            unfold plA at hK ⊢
            simp only [d0] at hK ⊢
            go_wp2
            exact hK (.int .i64 dc) w' (show PyR wq X (d 3) (d 7) (x 3) (x 7) w' from hS1) rfl
          · intro d x w' hS hdi hv hp hcl K hK
            have d0 : x 4 = .agg C1 := hv 4 (hp 4 (by kernel_rfl))
            have d1 : x 6 = .int .i64 dc := hv 6 (hp 6 (by kernel_rfl))
            have hS1 : PyR wq X (d 3) (d 7) (x 3) (x 7) w' := hS
            refine ⟨rfl, ?_⟩
            unfold plA at hK ⊢
            simp only [d0, d1] at hK ⊢
            go_wp2_with fail
            refine (idsQ_any (HPQ.out.qr.below hS1.b) HPQ.out.rr.ok dc).mono ?_
            rintro e w3 ⟨av, rfl, hr, hb⟩
            rw [← HX.out] at hr
            exact hK av w3 (show PyR wq X (d 3) true (x 3) av w3 from ⟨hS1.b.trans (hb.mono hS1.b.size), fun e => EK.row_below (hS1.r e) hb, fun _ => EK.row_base hr hS1.b.size⟩) trivial
          · intro d x w' hS hdi hv hp hcl K hK
            have hS1 : PyR wq X (d 3) (d 7) (x 3) (x 7) w' := hS
            have y3 : d 3 = true := hp 3 (by kernel_rfl)
            have y7 : d 7 = true := hp 7 (by kernel_rfl)
            refine ⟨rfl, ?_⟩
            unfold plA at hK ⊢
            go_wp2_with fail
            refine (ints_yes (hS1.r y3) (hS1.q y7)).mono ?_
            rintro e w3 ⟨rfl, hb⟩
            exact hK (.bool true) w3 (show PyR wq X (d 3) (d 7) (x 3) (x 7) w3 from ⟨hS1.b.trans (hb.mono hS1.b.size), fun e => EK.row_below (hS1.r e) hb, fun e => EK.row_below (hS1.q e) hb⟩) rfl
          · intro d x w' hS hdi hv hp hcl K hK
            have d0 : x 8 = .bool true := hv 8 (hp 8 (by kernel_rfl))
            have hS1 : PyR wq X (d 3) (d 7) (x 3) (x 7) w' := hS
            refine ⟨rfl, ?_⟩
            unfold plA at hK ⊢
            simp only [d0] at hK ⊢
            go_wp2
            exact hK (.bool false) w' (show PyR wq X (d 3) (d 7) (x 3) (x 7) w' from hS1) rfl
        · intro u hu d x w6 hS hd hv
          have hS1 : PyR wq X (d 3) (d 7) (x 3) (x 7) w6 := hS
          have e9 : x 9 = .bool false := hv 9 (by decide)
          have HRES := hide (show PlR w g cm b6 ll w6 (.int .i64 ((k : Int) + 1)) from ⟨k + 1, S1, C1, rfl, hkl, HPQ.out.below hS1.b⟩)
          clear hS hS1 hd hv hu
          unfold plA
          simp only [e9]
          clear e9
          go_wp2_with fail
          exact ⟨HRES.out, by simp only [intOf]; omega⟩
    · have hke : ll = k := by omega
      subst hke
      have HPQ := hide hpq
      obtain ⟨T, hT⟩ : ∃ T : ByteArray, T = ⟨(textR S).toArray⟩ := ⟨_, rfl⟩
      have HT := hide hT
      clear hpq hT
      go_wp2_with fail
      obtain ⟨wq, hwq⟩ : ∃ W, W = wr := ⟨_, rfl⟩
      rw [← hwq] at HPQ ⊢
      clear hwq
      refine wp_region_e (pfA g b6) (fun j => #[97, 98, 99, 100, 101, 102, 103, 104, 4].getD j 0) (fun d x w' => Below wq.heap.size wq w') (fun qi qv => pfV g T C qi qv) (by kernel_rfl) (by kernel_rfl) rfl (Below.refl _ _).drew ?_ ?_ ?_
      · exact fun u => ⟨fun x v => rfl, fun x v => rfl, fun x v => rfl, fun x v => rfl, fun x v => rfl, fun x v => rfl, fun x v => rfl, fun x v => rfl, fun x v => rfl, trivial⟩
      · refine fun u => ⟨?_, ?_, ?_, ?_, ?_, ?_, ?_, ?_, ?_, trivial⟩
        · intro d x w' hS hdi hv hp hcl K hK
          have hS1 : Below wq.heap.size wq w' := hS
          refine wantY (rfl) ?_
          unfold pfA at hK ⊢
          go_wp2
          exact hK (.pointer (some ⟨g, 0, none⟩)) w' (show Below wq.heap.size wq w' from hS1) rfl
        · intro d x w' hS hdi hv hp hcl K hK
          have d0 : x 0 = .pointer (some ⟨g, 0, none⟩) := hv 0 (hp 0 (by kernel_rfl))
          have hS1 : Below wq.heap.size wq w' := hS
          refine wantY (rfl) ?_
          unfold pfA at hK ⊢
          simp only [d0] at hK ⊢
          go_wp2_with fail
          refine (text_rr (HPQ.out.rr.below hS1)).mono ?_
          rintro e w3 ⟨rfl, -, hb⟩
          rw [← HT.out]
          exact hK (.string T) w3 (show Below wq.heap.size wq w3 from hS1.trans (hb.mono hS1.size)) rfl
        · intro d x w' hS hdi hv hp hcl K hK
          have hS1 : Below wq.heap.size wq w' := hS
          refine wantY (rfl) ?_
          unfold pfA at hK ⊢
          refine wp_loadv 68 (.tmp 6) rfl rfl (load68 HPQ.out.qr (obj_below HPQ.out.o hS1)) ?_
          exact hK _ w' (show Below wq.heap.size wq w' from hS1) rfl
        · intro d x w' hS hdi hv hp hcl K hK
          have d0 : x 2 = .agg C := hv 2 (hp 2 (by kernel_rfl))
          have hS1 : Below wq.heap.size wq w' := hS
          refine wantY (rfl) ?_
          unfold pfA at hK ⊢
          simp only [d0] at hK ⊢
          go_wp2_with fail
          refine (textQ_any (HPQ.out.qr.below hS1) HPQ.out.rr.ok).mono ?_
          rintro e w3 ⟨rfl, hb⟩
          rw [← HT.out]
          exact hK (.string T) w3 (show Below wq.heap.size wq w3 from hS1.trans (hb.mono hS1.size)) rfl
        · intro d x w' hS hdi hv hp hcl K hK
          have d0 : x 1 = .string T := hv 1 (hp 1 (by kernel_rfl))
          have d1 : x 3 = .string T := hv 3 (hp 3 (by kernel_rfl))
          have hS1 : Below wq.heap.size wq w' := hS
          refine wantY (rfl) ?_
          unfold pfA at hK ⊢
          simp only [d0, d1] at hK ⊢
          go_wp2
          exact hK (.bool true) w' (show Below wq.heap.size wq w' from hS1) rfl
        · intro d x w' hS hdi hv hp hcl K hK
          have d0 : x 4 = .bool true := hv 4 (hp 4 (by kernel_rfl))
          have hS1 : Below wq.heap.size wq w' := hS
          refine wantY (rfl) ?_
          unfold pfA at hK ⊢
          simp only [d0] at hK ⊢
          go_wp2
          exact hK (.bool true) w' (show Below wq.heap.size wq w' from hS1) rfl
        · intro d x w' hS hdi hv hp hcl K hK
          have dg : x 5 = .bool true := hv 5 (hp 5 (by kernel_rfl))
          have hS1 : Below wq.heap.size wq w' := hS
          refine wantY (by unfold pfA; rw [dg]; rfl) ?_
          unfold pfA at hK ⊢
          simp only [dg] at hK ⊢
          go_wp2_with fail
          refine (AW.out _).mono ?_
          rintro e w3 ⟨rfl, hb⟩
          exact hK (.bool true) w3 (show Below wq.heap.size wq w3 from hS1.trans (hb.mono hS1.size)) rfl
        · intro d x w' hS hdi hv hp hcl K hK
          have d0 : x 5 = .bool true := hv 5 (hp 5 (by kernel_rfl))
          have d1 : x 6 = .bool true := hv 6 (hp 6 (by kernel_rfl))
          have hS1 : Below wq.heap.size wq w' := hS
          refine wantY (rfl) ?_
          unfold pfA at hK ⊢
          simp only [d0, d1] at hK ⊢
          go_wp2
          exact hK (.bool true) w' (show Below wq.heap.size wq w' from hS1) rfl
        · intro d x w' hS hdi hv hp hcl K hK
          have d0 : x 7 = .bool true := hv 7 (hp 7 (by kernel_rfl))
          have hS1 : Below wq.heap.size wq w' := hS
          refine wantY (rfl) ?_
          unfold pfA at hK ⊢
          simp only [d0] at hK ⊢
          go_wp2
          exact hK (.bool true) w' (show Below wq.heap.size wq w' from hS1) rfl
      · intro u hu d x w6 hS hd hv
        have hS1 : Below wq.heap.size wq w6 := hS
        have e8 : x 8 = .bool true := hv 8 (by decide)
        have HB := hide (HPQ.out.rr.b.trans (hS1.mono HPQ.out.rr.bsz))
        clear hS hS1 hd hv hu
        unfold pfA
        simp only [e8]
        clear e8
        go_wp2
        go_ret
        exact ⟨rfl, HB.out⟩
end Go.Proofs.Ythcnoamgkkbkcaa
