/- Chapter 14, calls: the walk of CallsPlays. -/
import Derived.Test.YthcnoamgkkbkcaaCaX1
import Derived.Test.YthcnoamgkkbkcaaCaR3
import Derived.Test.YthcnoamgkkbkcaaCaR5
import Derived.Deep.CutBlock
namespace Go.Proofs.Ythcnoamgkkbkcaa
open Go.RowKit

/-- The node's calls, and the reference's in a variable. -/
structure PC (w : World) (g t p c cm b8 : Nat) (S : CS) (x : List Tm) (Sr : CS) (wr : World) : Prop where
  cv : ∃ v f, CV wr w.heap.size g t p c cm v S x f
  ok : COk S x
  rf : ∃ u, wr.heap[b8]? = some (.cells (rC Sr u) 29 (0, 0)) ∧ kK.row wr w.heap.size u Sr.L
  b : Below w.heap.size w wr
section
variable {w wr w' : World} {g t p c cm b8 : Nat} {S Sr S' : CS} {x x' : List Tm}
theorem PC.below (h : PC w g t p c cm b8 S x Sr wr) (hb : Below wr.heap.size wr w') : PC w g t p c cm b8 S x Sr w' := by
  obtain ⟨⟨v, f, h1⟩, h2, ⟨u, h3, h4⟩, h5⟩ := h
  exact ⟨⟨v, f, h1.below hb⟩, h2, ⟨u, obj_below h3 hb, EK.row_below h4 hb⟩, h5.trans (hb.mono h5.size)⟩
theorem PC.prog (h : PC w g t p c cm b8 S x Sr wr) (ha : CA wr w.heap.size g t p c cm S' x' w') : PC w g t p c cm b8 S' x' Sr w' := by
  obtain ⟨-, -, ⟨u, h3, h4⟩, h5⟩ := h
  obtain ⟨⟨v', f', a1⟩, a2, a3, a4⟩ := ha
  exact ⟨⟨v', f', a1⟩, a2, ⟨u, a4 _ _ _ h3 (by decide) (by decide) (by decide) (by decide), row_kp h4 a3 a4 (by decide) (by decide) (by decide) (by decide)⟩, h5.trans a3⟩
theorem PC.obj (h : PC w g t p c cm b8 S x Sr wr) : ∃ cs, wr.heap[b8]? = some (.cells cs 29 (0, 0)) := by
  obtain ⟨u, h3, h4⟩ := h.rf
  exact ⟨_, h3⟩
theorem PC.store (h : PC w g t p c cm b8 S x Sr wr) (hB : w.heap.size ≤ b8) {u : Value} (hr : kK.row wr w.heap.size u S'.L) :
    (Instr.storeAt 29 (.pointer (some ⟨b8, 0, none⟩)) (.agg (rC S' u))).run Try.prog wr = .ok () (wr.setRow b8 (rC S' u)) ∧ PC w g t p c cm b8 S x S' (wr.setRow b8 (rC S' u)) ∧ Fr (fun j => j = b8) wr (wr.setRow b8 (rC S' u)) := by
  obtain ⟨⟨v, f, h1⟩, h2, ⟨u0, h3, h4⟩, h5⟩ := h
  obtain ⟨A, c, rfl⟩ := EK.row_slice hr
  have F := setRow_fr' wr b8 (rC S' (.slice A S'.L.length c))
  exact ⟨store_whole h3 info29 rfl (by simp [rC, Value.oneCell']), ⟨⟨v, f, h1.fr F (fun j e => by subst e; exact ⟨_, _, h3, by decide, by decide, by decide, by decide, by decide⟩)⟩, h2, ⟨_, setRow_at' h3, EK.row_fr hr F (EK.row_ne_of hr h3 (by decide))⟩, h5.trans (F.below _ h5.size (fun j hj e => by omega))⟩, F⟩
end
theorem cRun_len (me now : Int) : ∀ (D : List Int) (L : List Ck) (M : List Mg), (D.foldl (cOne me now) (L, M)).1.length = L.length
  | [], _, _ => rfl
  | d :: D, L, M => by
    rw [List.foldl_cons]
    have e : cOne me now (L, M) d = ((cOne me now (L, M) d).1, (cOne me now (L, M) d).2) := rfl
    rw [e, cRun_len me now D]
    unfold cOne
    split
    · rfl
    · exact upd_len _ _ _
theorem cDue_len (S : CS) (x : List Tm) (now : Int) : (cDue S x now).1.L.length = S.L.length := by
  unfold cDue
  split
  · rfl
  · exact cRun_len _ _ _ _ _
theorem cCall_len (S : CS) (dst now : Int) (body : ByteArray) : (cCall S dst body now).1.L.length ≤ S.L.length + 1 := by
  unfold cCall
  split
  · exact Nat.le_succ _
  · split
    · exact Nat.le_succ _
    · split
      · exact Nat.le_succ _
      · simp
theorem cAnswer_len (S : CS) (m : Mg) : (cAnswer S m).1.L.length = S.L.length := by
  unfold cAnswer
  split
  · split
    · rfl
    · split
      · exact upd_len _ _ _
      · rfl
  · rfl
theorem cForget_len (S : CS) (id : Int) : (cForget S id).1.L.length ≤ S.L.length := by
  unfold cForget
  split
  · exact Nat.le_refl _
  · split
    · exact Nat.le_refl _
    · exact List.length_filter_le _ _
def PcS (w : World) (g t p c cm b8 ll : Nat) (wr : World) (iv : Value) : Prop := ∃ (k : Nat) (S : CS) (x : List Tm), iv = .int .i64 (k : Int) ∧ k ≤ ll ∧ PC w g t p c cm b8 S x S wr ∧ S.L.length ≤ k
/-- Both tell who is open. -/
structure PyS (wq : World) (X : List Int) (d14 d16 : Bool) (x14 x16 : Value) (w : World) : Prop where
  b : Below wq.heap.size wq w
  r : d14 = true → kI.row w wq.heap.size x14 X
  q : d16 = true → kI.row w wq.heap.size x16 X
def pyA (g b8 q k : Nat) (st : Int) (rep : ByteArray) (u x : Nat → Value) : Act := ⟨#[u 0, u 1, u 2, u 3, u 4, u 5, u 6, .pointer (some ⟨g, 0, none⟩), .pointer (some ⟨b8, 0, none⟩), .int .i64 (k : Int), .bool true, .pointer (some ⟨q, 0, none⟩), u 12, u 13, u 14, u 15, u 16, u 17, u 18, u 19, u 20, u 21, u 22, .int .i64 st, .string rep, .int .i64 st, .string rep, u 27, u 28, u 29, u 30, u 31, u 32, u 33, u 34, u 35, u 36, u 37, u 38, u 39, u 40, u 41, u 42, u 43, u 44, u 45, u 46, u 47, u 48, u 49, u 50, u 51, u 52, u 53, u 54, u 55, u 56, u 57, u 58, u 59, u 60, u 61, u 62, u 63, u 64, u 65, u 66, u 67, u 68, u 69, u 70, u 71, u 72, u 73, u 74, u 75, u 76, u 77, u 78, u 79, u 80, u 81, u 82, u 83, u 84, u 85, u 86, u 87, u 88, u 89, u 90, u 91, u 92, u 93, u 94, u 95, u 96, u 97, u 98, u 99, u 100, u 101, u 102, u 103, u 104, u 105, u 106, u 107, u 108, u 109, u 110, u 111, u 112, u 113, u 114, u 115, u 116, u 117, u 118, u 119, u 120, u 121, u 122, u 123, u 124, u 125, u 126, u 127, u 128, u 129, u 130, u 131, u 132, u 133, u 134, u 135, u 136, u 137, u 138, u 139, u 140, u 141, u 142, u 143, u 144, u 145, u 146, x 0, x 1, x 2, x 3, x 4, x 5, x 6, x 7, x 8, x 9, x 10, x 11, x 12, x 13, x 14, x 15, x 16, x 17, x 18, x 19, u 167], []⟩
def pyV (g : Nat) (st me nx : Int) (rep : ByteArray) (Au : Option Addr) (nu cu : Nat) (qx : Nat) (qw : Value) : Prop :=
  match qx with
  | 0 => qw = .bool true
  | 1 => qw = .bool false
  | 2 => qw = .bool false
  | 3 => qw = .int .i64 st
  | 4 => qw = .int .i64 st
  | 5 => qw = .bool false
  | 6 => qw = .bool false
  | 7 => qw = .bool false
  | 8 => qw = .string rep
  | 9 => qw = .string rep
  | 10 => qw = .bool false
  | 11 => qw = .bool false
  | 12 => qw = .bool false
  | 13 => qw = .pointer (some ⟨g, 0, none⟩)
  | 15 => qw = .agg #[.int .i64 me, .int .i64 nx, .slice Au nu cu]
  | 17 => qw = .bool true
  | 18 => qw = .bool false
  | 19 => qw = .bool false
  | _ => True
set_option maxHeartbeats 32000000 in
set_option maxRecDepth 100000 in
theorem walk_callsPlays (me0 first0 : Int) (v : Value) (l : List CDeed) (w : World) (_hm : (Lit.int .i64 me0).wf = true) (_hf : (Lit.int .i64 first0).wf = true) (hv : CDeedArg w v l) (_hz : ∀ x ∈ l, x.wf) :
    Calls Try.prog 3 #[.int .i64 me0, .int .i64 first0, v] w fun e w' => e = .returned (.bool true) ∧ Below w.heap.size w w' := by
  have AW := hide (fun W => awake14 W)
  obtain ⟨LA, lcap, rfl⟩ := hv.slice
  have hlm := hv.len
  simp only [maxLen] at hlm
  have HV := hide hv
  obtain ⟨ll, hll⟩ : ∃ ll, ll = l.length := ⟨_, rfl⟩
  rw [← hll] at hlm HV ⊢
  have HLL := hide hll
  clear hv hll _hz _hm _hf
  have HF := hide (fun (A : Option Addr) (c : Nat) (W : World) => few14_far A ll c W)
  have HFO := hide (fun (A : Option Addr) (c : Nat) (W : World) => few14_ok A ll c W)
  rcases Nat.lt_or_ge 150 ll with hbig | hbig
  · go_enter Try.func3, Try.ntmps3
    go_wp2_with fail
    refine (HF.out _ _ _ hbig).mono ?_
    rintro e w1 ⟨rfl, rfl⟩
    go_wp2_with fail
    refine (AW.out _).mono ?_
    rintro e w2 ⟨rfl, hb⟩
    go_wp2
    go_ret
    exact ⟨rfl, hb⟩
  have HN := hide (cnew_any me0 first0 w)
  have HRN := hide (fun W => rnew_any me0 first0 W)
  go_enter Try.func3, Try.ntmps3
  go_wp2_with fail
  refine (HFO.out _ _ _ hbig).mono ?_
  rintro e w1 ⟨rfl, rfl⟩
  go_wp2_with fail
  refine HN.out.mono ?_
  rintro e w1 ⟨g, t, p, c, cm, v1, f1, rfl, h1, hb1⟩
  have H1 := hide h1
  have HB1 := hide hb1
  clear h1 hb1 HN HF HFO
  go_wp2_with fail
  refine (HRN.out _).mono ?_
  rintro e w2 ⟨rfl, hb2⟩
  obtain ⟨S0, hS0⟩ : ∃ s, s = newC me0 first0 := ⟨_, rfl⟩
  have hok0 := newC_ok me0 first0
  have hL0 : S0.L = [] := by rw [hS0]; rfl
  rw [← hS0] at hok0 H1 ⊢
  obtain ⟨me1, nx1, L1⟩ := S0
  simp only at hL0
  subst hL0
  unfold rC
  simp only
  obtain ⟨b8, hb8⟩ : ∃ b, b = w2.heap.size := ⟨_, rfl⟩
  have hal := (Below.refl w2.heap.size w2).alloc (Nat.le_refl _) (.cells #[.int .i64 me1, .int .i64 nx1, .slice none 0 0] 29)
  have hbb : Below w.heap.size w w2 := HB1.out.trans (hb2.mono HB1.out.size)
  have HB8 := hide (show w.heap.size ≤ b8 from by rw [hb8]; exact hbb.size)
  have HS := hide (show PcS w g t p c cm b8 ll (w2.alloc (.cells #[.int .i64 me1, .int .i64 nx1, .slice none 0 0] 29)) (.int .i64 0) from
    ⟨0, ⟨me1, nx1, []⟩, [], rfl, Nat.zero_le _, ⟨⟨v1, f1, (H1.out.below hb2).below hal⟩, hok0, ⟨.slice none 0 0, by rw [hb8]; exact obj_new _ _, EK.row_nil _ _⟩, hbb.trans (hal.mono hbb.size)⟩, Nat.le_refl _⟩)
  clear hok0 hS0 hal hbb hb2 HRN
  go_wp2_with fail
  rw [← hb8]
  clear hb8
  go_loopw [9] (fun iv wr => PcS w g t p c cm b8 ll wr iv) (fun iv _ => ll - (intOf iv).toNat)
  case atStart => exact HS.out
  case round =>
    obtain ⟨k, S, x, rfl, hk, hpc, hlk⟩ := hrel
    rcases Nat.lt_or_ge k ll with hkl | hkl
    · obtain ⟨me, nx, L⟩ := S
      simp only at hlk
      have hb := hpc.b
      obtain ⟨a0, cap0, e0, hc1, hc2, q0, q1, q2, q3, q4, q5, q6, q7, q8⟩ := (HV.out.below hb).cells (k := k) (by have := HLL.out; omega)
      injection e0 with e0a e0b e0c
      subst e0a e0c
      simp only [maxLen] at hc2
      obtain ⟨d, hde⟩ : ∃ d, d = l[k]'(by have := HLL.out; omega) := ⟨_, rfl⟩
      rw [← hde] at q0 q1 q2 q3 q4 q5 q6 q7 q8
      obtain ⟨kd, da, db, dbody, mk, mf, mt, mi, mb⟩ := d
      simp only at q0 q1 q2 q3 q4 q5 q6 q7 q8
      have hcapi : ll ≤ lcap := by have := HLL.out; omega
      have hkli : (k : Int) < (ll : Int) := by omega
      have hal := (Below.refl wr.heap.size wr).alloc (Nat.le_refl _) (.cells #[.int .i64 kd, .int .i64 da, .int .i64 db, .string dbody, .int .i64 mk, .int .i64 mf, .int .i64 mt, .int .i64 mi, .string mb] 34)
      have oq := obj_new wr (.cells #[.int .i64 kd, .int .i64 da, .int .i64 db, .string dbody, .int .i64 mk, .int .i64 mf, .int .i64 mt, .int .i64 mi, .string mb] 34)
      obtain ⟨u, h8, hur⟩ := hpc.rf
      have HQ8N := hide (show ¬ wr.heap.size = b8 from by have := obj_lt h8; omega)
      obtain ⟨Au, cu, e9⟩ := EK.row_slice hur
      obtain ⟨nu, hnu⟩ : ∃ n, n = L.length := ⟨_, rfl⟩
      simp only at e9
      rw [← hnu] at e9
      subst e9
      unfold rC at h8
      simp only at h8
      have HAL := hide hal
      have HOQ := hide oq
      have HPA := hide (hpc.below hal)
      have HOK := hide hpc.ok
      have HRC := hide (fun (W : World) (hbW : Below wr.heap.size wr W) => show RC W w.heap.size ⟨me, nx, L⟩ (.agg (rC ⟨me, nx, L⟩ (.slice Au nu cu))) from ⟨_, rfl, EK.row_below hur hbW⟩)
      have HBSZ := hide (show w.heap.size ≤ (wr.alloc (.cells #[.int .i64 kd, .int .i64 da, .int .i64 db, .string dbody, .int .i64 mk, .int .i64 mf, .int .i64 mt, .int .i64 mi, .string mb] 34)).heap.size from by have := hb.size; have := hal.size; omega)
      have HL64 := hide (show L.length ≤ 65536 from by omega)
      have HLK := hide hlk
      have h8a := obj_below h8 hal
      clear hde hc1 hb e0b hpc hur hnu hlk
      go_upto_block 2 with fail
      go_cut [10] from 37 to 166 (fun s10 wx => s10 = .bool true ∧ ∃ S x, PC w g t p c cm b8 S x S wx ∧ S.L.length ≤ k + 1 ∧ wx.heap[wr.heap.size]? = some (.cells #[.int .i64 kd, .int .i64 da, .int .i64 db, .string dbody, .int .i64 mk, .int .i64 mf, .int .i64 mt, .int .i64 mi, .string mb] 34 (0, 0)))
      case first =>
        clear q0 q1 q2 q3 q4 q5 q6 q7 q8 hal
        have y0 := obj_cell oq 0
        have y1 := obj_cell oq 1
        have y2 := obj_cell oq 2
        have y3 := obj_cell oq 3
        have y4 := obj_cell oq 4
        have y5 := obj_cell oq 5
        have y6 := obj_cell oq 6
        have y7 := obj_cell oq 7
        have y8 := obj_cell oq 8
        simp only [List.getElem?_toArray, List.getElem?_cons_zero, List.getElem?_cons_succ] at y0 y1 y2 y3 y4 y5 y6 y7 y8
        have z0 := obj_cell h8a 0
        have z1 := obj_cell h8a 1
        have z2 := obj_cell h8a 2
        simp only [List.getElem?_toArray, List.getElem?_cons_zero, List.getElem?_cons_succ] at z0 z1 z2
        clear oq h8 h8a
        by_cases hk0 : kd = 0
        · have HRS := hide (rcall_any (HRC.out _ HAL.out) HBSZ.out HOK.out HL64.out da db dbody)
          unfold rC at HRS
          simp only at HRS
          subst hk0
          go_wp2_with fail
          refine HRS.out.mono ?_
          rintro e w2 ⟨v2, rfl, hrc, hb2⟩
          obtain ⟨u1, hu1e, hu1r⟩ := hrc
          obtain ⟨S1, hS1⟩ : ∃ s, s = (cCall ⟨me, nx, L⟩ da dbody db).1 := ⟨_, rfl⟩
          rw [← hS1] at hu1e hu1r
          have hp2 := HPA.out.below hb2
          obtain ⟨me1, nx1, L1⟩ := S1
          obtain ⟨A1, c1, e1⟩ := EK.row_slice hu1r
          obtain ⟨n1, hn1⟩ : ∃ n, n = L1.length := ⟨_, rfl⟩
          simp only at e1
          rw [← hn1] at e1
          subst e1
          unfold rC at hu1e
          simp only at hu1e
          subst hu1e
          have hal2 := (Below.refl w2.heap.size w2).alloc (Nat.le_refl _) (.cells #[.int .i64 me1, .int .i64 nx1, .slice A1 n1 c1] 29)
          have hp3 := hp2.below hal2
          obtain ⟨hrun, hp4, hf4⟩ := hp3.store (S' := ⟨me1, nx1, L1⟩) HB8.out (EK.row_below hu1r hal2)
          unfold rC at hrun hp4 hf4
          simp only at hrun hp4 hf4
          have HRUN : Hid ((Instr.storeAt 29 (.pointer (some ⟨b8, 0, none⟩)) (.agg #[.int .i64 me1, .int .i64 nx1, .slice A1 n1 c1])).run Try.prog (w2.alloc (.cells #[.int .i64 me1, .int .i64 nx1, .slice A1 n1 c1] 29)) = .ok () ((w2.alloc (.cells #[.int .i64 me1, .int .i64 nx1, .slice A1 n1 c1] 29)).setRow b8 #[.int .i64 me1, .int .i64 nx1, .slice A1 n1 c1])) := hide hrun
          have hq4 := hf4.obj (obj_below (obj_below HOQ.out hb2) hal2) HQ8N.out
          obtain ⟨⟨v4, f4, hcv4⟩, -, -, -⟩ := id hp4
          have HPG := hide (ccall_any hcv4 HOK.out da db dbody)
          have HP4 := hide hp4
          have HQ4 := hide hq4
          have HLN := hide (show L1.length ≤ k + 1 from by have := cCall_len ⟨me, nx, L⟩ da db dbody; rw [← hS1] at this; have := HLK.out; simp only at *; omega)
          obtain ⟨id1, hid1⟩ : ∃ z, z = (cCall ⟨me, nx, L⟩ da dbody db).2.1 := ⟨_, rfl⟩
          obtain ⟨er1, her1⟩ : ∃ z, z = (cCall ⟨me, nx, L⟩ da dbody db).2.2 := ⟨_, rfl⟩
          rw [← hS1, ← hid1, ← her1] at HPG
          rw [← hid1, ← her1]
          have g0 := obj_cell HQ4.out 0
          have g1 := obj_cell HQ4.out 1
          have g2 := obj_cell HQ4.out 2
          have g3 := obj_cell HQ4.out 3
          have g4 := obj_cell HQ4.out 4
          have g5 := obj_cell HQ4.out 5
          have g6 := obj_cell HQ4.out 6
          have g7 := obj_cell HQ4.out 7
          have g8 := obj_cell HQ4.out 8
          simp only [List.getElem?_toArray, List.getElem?_cons_zero, List.getElem?_cons_succ] at g0 g1 g2 g3 g4 g5 g6 g7 g8
          clear hu1r hn1 hp2 hp3 hrun hp4 hf4 hq4 hal2 hb2 hS1 hcv4 hid1 her1 y0 y1 y2 y3 y4 y5 y6 y7 y8 z0 z1 z2
          go_wp2_with (refine wpList_storev' (w' := (w2.alloc (.cells #[.int .i64 me1, .int .i64 nx1, .slice A1 n1 c1] 29)).setRow b8 #[.int .i64 me1, .int .i64 nx1, .slice A1 n1 c1]) rfl 29 (.tmp 8) (.tmp 63) rfl rfl rfl ?_ ?_; exact HRUN.out)
          refine HPG.out.mono ?_
          rintro e w5 ⟨rfl, x5, ha⟩
          have HREL := hide (show ∃ S x, PC w g t p c cm b8 S x S w5 ∧ S.L.length ≤ k + 1 ∧ w5.heap[wr.heap.size]? = some (.cells #[.int .i64 0, .int .i64 da, .int .i64 db, .string dbody, .int .i64 mk, .int .i64 mf, .int .i64 mt, .int .i64 mi, .string mb] 34 (0, 0)) from
            ⟨_, _, HP4.out.prog ha, HLN.out, ha.2.2.2 _ _ _ HQ4.out (by decide) (by decide) (by decide) (by decide)⟩)
          clear ha g0 g1 g2 g3 g4 g5 g6 g7 g8
          go_wp2
          go_meet
          case rel => exact ⟨rfl, HREL.out⟩
        by_cases hk1 : kd = 1
        · have HRS := hide (rdue_any (HRC.out _ HAL.out) HBSZ.out HOK.out HL64.out db)
          unfold rC at HRS
          simp only at HRS
          subst hk1
          go_wp2_with fail
          refine HRS.out.mono ?_
          rintro e w2 ⟨v2, ov2, rfl, hrc, hmo, hb2⟩
          obtain ⟨u1, hu1e, hu1r⟩ := hrc
          obtain ⟨S1, hS1⟩ : ∃ s, s = (cDue ⟨me, nx, L⟩ x db).1 := ⟨_, rfl⟩
          rw [← hS1] at hu1e hu1r
          have hp2 := HPA.out.below hb2
          obtain ⟨me1, nx1, L1⟩ := S1
          obtain ⟨A1, c1, e1⟩ := EK.row_slice hu1r
          obtain ⟨n1, hn1⟩ : ∃ n, n = L1.length := ⟨_, rfl⟩
          simp only at e1
          rw [← hn1] at e1
          subst e1
          unfold rC at hu1e
          simp only at hu1e
          subst hu1e
          have hal2 := (Below.refl w2.heap.size w2).alloc (Nat.le_refl _) (.cells #[.int .i64 me1, .int .i64 nx1, .slice A1 n1 c1] 29)
          have hp3 := hp2.below hal2
          obtain ⟨hrun, hp4, hf4⟩ := hp3.store (S' := ⟨me1, nx1, L1⟩) HB8.out (EK.row_below hu1r hal2)
          unfold rC at hrun hp4 hf4
          simp only at hrun hp4 hf4
          have HRUN : Hid ((Instr.storeAt 29 (.pointer (some ⟨b8, 0, none⟩)) (.agg #[.int .i64 me1, .int .i64 nx1, .slice A1 n1 c1])).run Try.prog (w2.alloc (.cells #[.int .i64 me1, .int .i64 nx1, .slice A1 n1 c1] 29)) = .ok () ((w2.alloc (.cells #[.int .i64 me1, .int .i64 nx1, .slice A1 n1 c1] 29)).setRow b8 #[.int .i64 me1, .int .i64 nx1, .slice A1 n1 c1])) := hide hrun
          have hq4 := hf4.obj (obj_below (obj_below HOQ.out hb2) hal2) HQ8N.out
          obtain ⟨⟨v4, f4, hcv4⟩, -, -, -⟩ := id hp4
          have HPG := hide (cdue_any hcv4 HOK.out db)
          have HP4 := hide hp4
          have HQ4 := hide hq4
          have HLN := hide (show L1.length ≤ k + 1 from by have := cDue_len ⟨me, nx, L⟩ x db; rw [← hS1] at this; have := HLK.out; simp only at *; omega)
          have hmo4 := EK.row_fr (EK.row_below hmo hal2) hf4 (EK.row_ne_of (EK.row_below hmo hal2) (Classical.choose_spec hp3.obj) (by decide))
          have HMO := hide hmo4
          obtain ⟨M1, hM1⟩ : ∃ z, z = (cDue ⟨me, nx, L⟩ x db).2 := ⟨_, rfl⟩
          rw [← hS1, ← hM1] at HPG
          rw [← hM1] at HMO
          have g0 := obj_cell HQ4.out 0
          have g1 := obj_cell HQ4.out 1
          have g2 := obj_cell HQ4.out 2
          have g3 := obj_cell HQ4.out 3
          have g4 := obj_cell HQ4.out 4
          have g5 := obj_cell HQ4.out 5
          have g6 := obj_cell HQ4.out 6
          have g7 := obj_cell HQ4.out 7
          have g8 := obj_cell HQ4.out 8
          simp only [List.getElem?_toArray, List.getElem?_cons_zero, List.getElem?_cons_succ] at g0 g1 g2 g3 g4 g5 g6 g7 g8
          clear hu1r hn1 hp2 hp3 hrun hp4 hf4 hq4 hal2 hb2 hS1 hcv4 hmo hmo4 hM1 y0 y1 y2 y3 y4 y5 y6 y7 y8 z0 z1 z2
          go_wp2_with (refine wpList_storev' (w' := (w2.alloc (.cells #[.int .i64 me1, .int .i64 nx1, .slice A1 n1 c1] 29)).setRow b8 #[.int .i64 me1, .int .i64 nx1, .slice A1 n1 c1]) rfl 29 (.tmp 8) (.tmp 92) rfl rfl rfl ?_ ?_; exact HRUN.out)
          refine HPG.out.mono ?_
          rintro e w5 ⟨ov5, rfl, hmr, x5, ha⟩
          have hmo5 := row_kp HMO.out ha.2.2.1 ha.2.2.2 (by decide) (by decide) (by decide) (by decide)
          have HREL := hide (show ∃ S x, PC w g t p c cm b8 S x S w5 ∧ S.L.length ≤ k + 1 ∧ w5.heap[wr.heap.size]? = some (.cells #[.int .i64 1, .int .i64 da, .int .i64 db, .string dbody, .int .i64 mk, .int .i64 mf, .int .i64 mt, .int .i64 mi, .string mb] 34 (0, 0)) from
            ⟨_, _, HP4.out.prog ha, HLN.out, ha.2.2.2 _ _ _ HQ4.out (by decide) (by decide) (by decide) (by decide)⟩)
          have HSM := hide (msame_yes hmr hmo5)
          clear ha g0 g1 g2 g3 g4 g5 g6 g7 g8 hmr hmo5
          go_wp2_with fail
          refine HSM.out.mono ?_
          rintro e w6 ⟨rfl, hb6⟩
          have HREL2 := hide (show ∃ S x, PC w g t p c cm b8 S x S w6 ∧ S.L.length ≤ k + 1 ∧ w6.heap[wr.heap.size]? = some (.cells #[.int .i64 1, .int .i64 da, .int .i64 db, .string dbody, .int .i64 mk, .int .i64 mf, .int .i64 mt, .int .i64 mi, .string mb] 34 (0, 0)) from by
            obtain ⟨S9, x9, h1, h2, h3⟩ := HREL.out
            exact ⟨S9, x9, h1.below hb6, h2, obj_below h3 hb6⟩)
          clear hb6
          go_wp2
          go_meet
          case rel => exact ⟨rfl, HREL2.out⟩
        by_cases hk2 : kd = 2
        · have HRS := hide (ranswer_any (HRC.out _ HAL.out) HBSZ.out HOK.out.ids HL64.out ⟨mk, mf, mt, mi, mb⟩)
          unfold rC mgC at HRS
          simp only at HRS
          subst hk2
          go_wp2_with fail
          refine HRS.out.mono ?_
          rintro e w2 ⟨v2, rfl, hrc, hb2⟩
          obtain ⟨u1, hu1e, hu1r⟩ := hrc
          obtain ⟨S1, hS1⟩ : ∃ s, s = (cAnswer ⟨me, nx, L⟩ ⟨mk, mf, mt, mi, mb⟩).1 := ⟨_, rfl⟩
          rw [← hS1] at hu1e hu1r
          have hp2 := HPA.out.below hb2
          obtain ⟨me1, nx1, L1⟩ := S1
          obtain ⟨A1, c1, e1⟩ := EK.row_slice hu1r
          obtain ⟨n1, hn1⟩ : ∃ n, n = L1.length := ⟨_, rfl⟩
          simp only at e1
          rw [← hn1] at e1
          subst e1
          unfold rC at hu1e
          simp only at hu1e
          subst hu1e
          have hal2 := (Below.refl w2.heap.size w2).alloc (Nat.le_refl _) (.cells #[.int .i64 me1, .int .i64 nx1, .slice A1 n1 c1] 29)
          have hp3 := hp2.below hal2
          obtain ⟨hrun, hp4, hf4⟩ := hp3.store (S' := ⟨me1, nx1, L1⟩) HB8.out (EK.row_below hu1r hal2)
          unfold rC at hrun hp4 hf4
          simp only at hrun hp4 hf4
          have HRUN : Hid ((Instr.storeAt 29 (.pointer (some ⟨b8, 0, none⟩)) (.agg #[.int .i64 me1, .int .i64 nx1, .slice A1 n1 c1])).run Try.prog (w2.alloc (.cells #[.int .i64 me1, .int .i64 nx1, .slice A1 n1 c1] 29)) = .ok () ((w2.alloc (.cells #[.int .i64 me1, .int .i64 nx1, .slice A1 n1 c1] 29)).setRow b8 #[.int .i64 me1, .int .i64 nx1, .slice A1 n1 c1])) := hide hrun
          have hq4 := hf4.obj (obj_below (obj_below HOQ.out hb2) hal2) HQ8N.out
          obtain ⟨⟨v4, f4, hcv4⟩, -, -, -⟩ := id hp4
          have HPG := hide (canswer_any hcv4 HOK.out ⟨mk, mf, mt, mi, mb⟩)
          have HP4 := hide hp4
          have HQ4 := hide hq4
          have HLN := hide (show L1.length ≤ k + 1 from by have := cAnswer_len ⟨me, nx, L⟩ ⟨mk, mf, mt, mi, mb⟩; rw [← hS1] at this; have := HLK.out; simp only at *; omega)
          obtain ⟨b1, hb1⟩ : ∃ z, z = (cAnswer ⟨me, nx, L⟩ ⟨mk, mf, mt, mi, mb⟩).2 := ⟨_, rfl⟩
          rw [← hS1, ← hb1] at HPG
          rw [← hb1]
          have g0 := obj_cell HQ4.out 0
          have g1 := obj_cell HQ4.out 1
          have g2 := obj_cell HQ4.out 2
          have g3 := obj_cell HQ4.out 3
          have g4 := obj_cell HQ4.out 4
          have g5 := obj_cell HQ4.out 5
          have g6 := obj_cell HQ4.out 6
          have g7 := obj_cell HQ4.out 7
          have g8 := obj_cell HQ4.out 8
          simp only [List.getElem?_toArray, List.getElem?_cons_zero, List.getElem?_cons_succ] at g0 g1 g2 g3 g4 g5 g6 g7 g8
          unfold mgC at HPG
          simp only at HPG
          clear hu1r hn1 hp2 hp3 hrun hp4 hf4 hq4 hal2 hb2 hS1 hcv4 hb1 y0 y1 y2 y3 y4 y5 y6 y7 y8 z0 z1 z2
          go_wp2_with (refine wpList_storev' (w' := (w2.alloc (.cells #[.int .i64 me1, .int .i64 nx1, .slice A1 n1 c1] 29)).setRow b8 #[.int .i64 me1, .int .i64 nx1, .slice A1 n1 c1]) rfl 29 (.tmp 8) (.tmp 108) rfl rfl rfl ?_ ?_; exact HRUN.out)
          refine HPG.out.mono ?_
          rintro e w5 ⟨rfl, x5, ha⟩
          have HREL := hide (show ∃ S x, PC w g t p c cm b8 S x S w5 ∧ S.L.length ≤ k + 1 ∧ w5.heap[wr.heap.size]? = some (.cells #[.int .i64 2, .int .i64 da, .int .i64 db, .string dbody, .int .i64 mk, .int .i64 mf, .int .i64 mt, .int .i64 mi, .string mb] 34 (0, 0)) from
            ⟨_, _, HP4.out.prog ha, HLN.out, ha.2.2.2 _ _ _ HQ4.out (by decide) (by decide) (by decide) (by decide)⟩)
          clear ha g0 g1 g2 g3 g4 g5 g6 g7 g8
          go_wp2
          go_meet
          case rel => exact ⟨by simp, HREL.out⟩
        by_cases hk3 : kd = 3
        · have HRS := hide (rforget_any (HRC.out _ HAL.out) HBSZ.out HOK.out.ids HL64.out da)
          unfold rC at HRS
          simp only at HRS
          subst hk3
          go_wp2_with fail
          refine HRS.out.mono ?_
          rintro e w2 ⟨v2, rfl, hrc, hb2⟩
          obtain ⟨u1, hu1e, hu1r⟩ := hrc
          obtain ⟨S1, hS1⟩ : ∃ s, s = (cForget ⟨me, nx, L⟩ da).1 := ⟨_, rfl⟩
          rw [← hS1] at hu1e hu1r
          have hp2 := HPA.out.below hb2
          obtain ⟨me1, nx1, L1⟩ := S1
          obtain ⟨A1, c1, e1⟩ := EK.row_slice hu1r
          obtain ⟨n1, hn1⟩ : ∃ n, n = L1.length := ⟨_, rfl⟩
          simp only at e1
          rw [← hn1] at e1
          subst e1
          unfold rC at hu1e
          simp only at hu1e
          subst hu1e
          have hal2 := (Below.refl w2.heap.size w2).alloc (Nat.le_refl _) (.cells #[.int .i64 me1, .int .i64 nx1, .slice A1 n1 c1] 29)
          have hp3 := hp2.below hal2
          obtain ⟨hrun, hp4, hf4⟩ := hp3.store (S' := ⟨me1, nx1, L1⟩) HB8.out (EK.row_below hu1r hal2)
          unfold rC at hrun hp4 hf4
          simp only at hrun hp4 hf4
          have HRUN : Hid ((Instr.storeAt 29 (.pointer (some ⟨b8, 0, none⟩)) (.agg #[.int .i64 me1, .int .i64 nx1, .slice A1 n1 c1])).run Try.prog (w2.alloc (.cells #[.int .i64 me1, .int .i64 nx1, .slice A1 n1 c1] 29)) = .ok () ((w2.alloc (.cells #[.int .i64 me1, .int .i64 nx1, .slice A1 n1 c1] 29)).setRow b8 #[.int .i64 me1, .int .i64 nx1, .slice A1 n1 c1])) := hide hrun
          have hq4 := hf4.obj (obj_below (obj_below HOQ.out hb2) hal2) HQ8N.out
          obtain ⟨⟨v4, f4, hcv4⟩, -, -, -⟩ := id hp4
          have HPG := hide (cforget_any hcv4 HOK.out da)
          have HP4 := hide hp4
          have HQ4 := hide hq4
          have HLN := hide (show L1.length ≤ k + 1 from by have := cForget_len ⟨me, nx, L⟩ da; rw [← hS1] at this; have := HLK.out; simp only at *; omega)
          obtain ⟨b1, hb1⟩ : ∃ z, z = (cForget ⟨me, nx, L⟩ da).2 := ⟨_, rfl⟩
          rw [← hS1, ← hb1] at HPG
          rw [← hb1]
          have g0 := obj_cell HQ4.out 0
          have g1 := obj_cell HQ4.out 1
          have g2 := obj_cell HQ4.out 2
          have g3 := obj_cell HQ4.out 3
          have g4 := obj_cell HQ4.out 4
          have g5 := obj_cell HQ4.out 5
          have g6 := obj_cell HQ4.out 6
          have g7 := obj_cell HQ4.out 7
          have g8 := obj_cell HQ4.out 8
          simp only [List.getElem?_toArray, List.getElem?_cons_zero, List.getElem?_cons_succ] at g0 g1 g2 g3 g4 g5 g6 g7 g8
          clear hu1r hn1 hp2 hp3 hrun hp4 hf4 hq4 hal2 hb2 hS1 hcv4 hb1 y0 y1 y2 y3 y4 y5 y6 y7 y8 z0 z1 z2
          go_wp2_with (refine wpList_storev' (w' := (w2.alloc (.cells #[.int .i64 me1, .int .i64 nx1, .slice A1 n1 c1] 29)).setRow b8 #[.int .i64 me1, .int .i64 nx1, .slice A1 n1 c1]) rfl 29 (.tmp 8) (.tmp 124) rfl rfl rfl ?_ ?_; exact HRUN.out)
          refine HPG.out.mono ?_
          rintro e w5 ⟨rfl, ha⟩
          have HREL := hide (show ∃ S x, PC w g t p c cm b8 S x S w5 ∧ S.L.length ≤ k + 1 ∧ w5.heap[wr.heap.size]? = some (.cells #[.int .i64 3, .int .i64 da, .int .i64 db, .string dbody, .int .i64 mk, .int .i64 mf, .int .i64 mt, .int .i64 mi, .string mb] 34 (0, 0)) from
            ⟨_, _, HP4.out.prog ha, HLN.out, ha.2.2.2 _ _ _ HQ4.out (by decide) (by decide) (by decide) (by decide)⟩)
          clear ha g0 g1 g2 g3 g4 g5 g6 g7 g8
          go_wp2
          go_meet
          case rel => exact ⟨by simp, HREL.out⟩
        have HREL := hide (show ∃ S x, PC w g t p c cm b8 S x S (wr.alloc (.cells #[.int .i64 kd, .int .i64 da, .int .i64 db, .string dbody, .int .i64 mk, .int .i64 mf, .int .i64 mt, .int .i64 mi, .string mb] 34)) ∧ S.L.length ≤ k + 1 ∧ (wr.alloc (.cells #[.int .i64 kd, .int .i64 da, .int .i64 db, .string dbody, .int .i64 mk, .int .i64 mf, .int .i64 mt, .int .i64 mi, .string mb] 34)).heap[wr.heap.size]? = some (.cells #[.int .i64 kd, .int .i64 da, .int .i64 db, .string dbody, .int .i64 mk, .int .i64 mf, .int .i64 mt, .int .i64 mi, .string mb] 34 (0, 0)) from
          ⟨_, _, HPA.out, by have := HLK.out; simp only; omega, HOQ.out⟩)
        clear z0 z1 z2 y1 y2 y3 y4 y5 y6 y7 y8
        go_wp2
        go_meet
        case rel => exact ⟨rfl, HREL.out⟩
      case rest =>
      clear oq q0 q1 q2 q3 q4 q5 q6 q7 q8 hal h8 h8a HAL HOQ HPA HOK HRC HBSZ HL64 HLK
      obtain ⟨rfl, ⟨me, nx, L⟩, x, hpc, hlk, hoq⟩ := hcut
      simp only at hlk
      obtain ⟨⟨v2, f2, hcv⟩, hok, ⟨u, h8, hur⟩, hb⟩ := id hpc
      obtain ⟨Au, cu, e9⟩ := EK.row_slice hur
      obtain ⟨nu, hnu⟩ : ∃ n, n = L.length := ⟨_, rfl⟩
      simp only at e9
      rw [← hnu] at e9
      subst e9
      unfold rC at h8
      simp only at h8
      have HST := hide (cstate_any hcv hok.ids mi)
      have HRT := hide (fun (W : World) (hbW : Below wc.heap.size wc W) => rstate_any (w := W) (B := w.heap.size) (S := ⟨me, nx, L⟩) (v := .agg #[.int .i64 me, .int .i64 nx, .slice Au nu cu]) ⟨_, rfl, EK.row_below hur hbW⟩ hok.ids (by simp only; omega) mi)
      obtain ⟨st, hst⟩ : ∃ z, z = (cState ⟨me, nx, L⟩ mi).1 := ⟨_, rfl⟩
      obtain ⟨rep, hrep⟩ : ∃ z, z = (cState ⟨me, nx, L⟩ mi).2 := ⟨_, rfl⟩
      rw [← hst, ← hrep] at HST HRT
      have g7 := obj_cell hoq 7
      simp only [List.getElem?_toArray, List.getElem?_cons_zero, List.getElem?_cons_succ] at g7
      have HPC := hide hpc
      have HOQ := hide hoq
      have H8 := hide h8
      have HOPP0 := hide (fun (W : World) (hbW : Below wc.heap.size wc W) => copen_any (hcv.below hbW) hok)
      have HOPR0 := hide (fun (W : World) (hbW : Below wc.heap.size wc W) => ropen_any (w := W) (B := w.heap.size) (S := ⟨me, nx, L⟩) (v := .agg #[.int .i64 me, .int .i64 nx, .slice Au nu cu]) ⟨_, rfl, EK.row_below hur hbW⟩ (by simp only; omega))
      have HLK := hide hlk
      clear hcv hok h8 hur hb hnu hst hrep hpc hoq hlk
      go_wp2_with fail
      refine HST.out.mono ?_
      rintro e w3 ⟨rfl, m3, rfl⟩
      have hb3 : Below wc.heap.size wc (wc.drewN m3) := below_drewN (Below.refl _ _) m3
      generalize wc.drewN m3 = w3 at hb3 ⊢
      have HB3 := hide hb3
      have HR3 := hide (HRT.out _ hb3)
      have g7 := obj_cell (obj_below HOQ.out hb3) 7
      have z0 := obj_cell (obj_below H8.out hb3) 0
      have z1 := obj_cell (obj_below H8.out hb3) 1
      have z2 := obj_cell (obj_below H8.out hb3) 2
      simp only [List.getElem?_toArray, List.getElem?_cons_zero, List.getElem?_cons_succ] at g7 z0 z1 z2
      clear hb3
      go_wp2_with fail
      refine HR3.out.mono ?_
      rintro e wq ⟨rfl, hb4⟩
      have hb5 := HB3.out.trans (hb4.mono HB3.out.size)
      have HB5 := hide hb5
      have HQ8 := hide (obj_below H8.out hb5)
      obtain ⟨X, hX⟩ : ∃ X, X = opens L := ⟨_, rfl⟩
      have HOPP := hide (fun (W : World) (hbW : Below wq.heap.size wq W) => HOPP0.out W (hb5.trans (hbW.mono hb5.size)))
      have HOPR := hide (fun (W : World) (hbW : Below wq.heap.size wq W) => HOPR0.out W (hb5.trans (hbW.mono hb5.size)))
      rw [← hX] at HOPP HOPR
      clear hb4 hb5 g7 z0 z1 z2 hX
      go_wp2_with fail
      generalize hq : wr.heap.size = q
      refine wp_region_e (pyA g b8 q k st rep) (fun j => #[147, 148, 149, 150, 151, 152, 153, 154, 155, 156, 157, 158, 159, 160, 161, 162, 163, 164, 165, 166].getD j 0) (fun d x w' => PyS wq X (d 14) (d 16) (x 14) (x 16) w') (fun qi qv => pyV g st me nx rep Au nu cu qi qv) (by kernel_rfl) (by kernel_rfl) rfl ⟨(Below.refl _ _).drew, (fun e => by cases e), (fun e => by cases e)⟩ ?_ ?_ ?_
      · exact fun u => ⟨fun x v => rfl, fun x v => rfl, fun x v => rfl, fun x v => rfl, fun x v => rfl, fun x v => rfl, fun x v => rfl, fun x v => rfl, fun x v => rfl, fun x v => rfl, fun x v => rfl, fun x v => rfl, fun x v => rfl, fun x v => rfl, fun x v => rfl, fun x v => rfl, fun x v => rfl, fun x v => rfl, fun x v => rfl, fun x v => rfl, trivial⟩
      · refine fun u => ⟨?_, ?_, ?_, ?_, ?_, ?_, ?_, ?_, ?_, ?_, ?_, ?_, ?_, ?_, ?_, ?_, ?_, ?_, ?_, ?_, trivial⟩
        · intro d x w' hS hdi hv hp hcl K hK
          have hS1 : PyS wq X (d 14) (d 16) (x 14) (x 16) w' := hS
          refine want_yes (rfl) ?_
          unfold pyA at hK ⊢
          go_wp2
          exact hK (.bool true) w' (show PyS wq X (d 14) (d 16) (x 14) (x 16) w' from hS1) rfl
        · intro d x w' hS hdi hv hp hcl K hK
          have d0 : x 0 = .bool true := hv 0 (hp 0 (by kernel_rfl))
          have hS1 : PyS wq X (d 14) (d 16) (x 14) (x 16) w' := hS
          refine want_yes (rfl) ?_
          unfold pyA at hK ⊢
          simp only [d0] at hK ⊢
          go_wp2
          exact hK (.bool false) w' (show PyS wq X (d 14) (d 16) (x 14) (x 16) w' from hS1) rfl
        · intro d x w' hS hdi hv hp hcl K hK
          have d0 : x 1 = .bool false := hv 1 (hp 1 (by kernel_rfl))
          have hS1 : PyS wq X (d 14) (d 16) (x 14) (x 16) w' := hS
          refine want_yes (rfl) ?_
          unfold pyA at hK ⊢
          simp only [d0] at hK ⊢
          go_wp2
          exact hK (.bool false) w' (show PyS wq X (d 14) (d 16) (x 14) (x 16) w' from hS1) rfl
        · intro d x w' hS hdi hv hp hcl K hK
          have dg : x 2 = .bool false := hv 2 (hp 2 (by kernel_rfl))
          have hS1 : PyS wq X (d 14) (d 16) (x 14) (x 16) w' := hS
          refine want_yes (by unfold pyA; rw [dg]; rfl) ?_
          unfold pyA at hK ⊢
          simp only [dg] at hK ⊢
          go_wp2
          exact hK (.int .i64 st) w' (show PyS wq X (d 14) (d 16) (x 14) (x 16) w' from hS1) rfl
        · intro d x w' hS hdi hv hp hcl K hK
          have dg : x 2 = .bool false := hv 2 (hp 2 (by kernel_rfl))
          have hS1 : PyS wq X (d 14) (d 16) (x 14) (x 16) w' := hS
          refine want_yes (by unfold pyA; rw [dg]; rfl) ?_
          unfold pyA at hK ⊢
          simp only [dg] at hK ⊢
          go_wp2
          exact hK (.int .i64 st) w' (show PyS wq X (d 14) (d 16) (x 14) (x 16) w' from hS1) rfl
        · intro d x w' hS hdi hv hp hcl K hK
          have d0 : x 3 = .int .i64 st := hv 3 (hp 3 (by kernel_rfl))
          have d1 : x 4 = .int .i64 st := hv 4 (hp 4 (by kernel_rfl))
          have dg : x 2 = .bool false := hv 2 (hp 2 (by kernel_rfl))
          have hS1 : PyS wq X (d 14) (d 16) (x 14) (x 16) w' := hS
          refine want_yes (by unfold pyA; rw [dg]; rfl) ?_
          unfold pyA at hK ⊢
          simp only [d0, d1, dg] at hK ⊢
          go_wp2
          exact hK (.bool false) w' (show PyS wq X (d 14) (d 16) (x 14) (x 16) w' from hS1) rfl
        · intro d x w' hS hdi hv hp hcl K hK
          have d0 : x 2 = .bool false := hv 2 (hp 2 (by kernel_rfl))
          have d1 : x 5 = .bool false := hv 5 (hp 5 (by kernel_rfl))
          have hS1 : PyS wq X (d 14) (d 16) (x 14) (x 16) w' := hS
          refine want_yes (rfl) ?_
          unfold pyA at hK ⊢
          simp only [d0, d1] at hK ⊢
          go_wp2
          exact hK (.bool false) w' (show PyS wq X (d 14) (d 16) (x 14) (x 16) w' from hS1) rfl
        · intro d x w' hS hdi hv hp hcl K hK
          have d0 : x 6 = .bool false := hv 6 (hp 6 (by kernel_rfl))
          have hS1 : PyS wq X (d 14) (d 16) (x 14) (x 16) w' := hS
          refine want_yes (rfl) ?_
          unfold pyA at hK ⊢
          simp only [d0] at hK ⊢
          go_wp2
          exact hK (.bool false) w' (show PyS wq X (d 14) (d 16) (x 14) (x 16) w' from hS1) rfl
        · intro d x w' hS hdi hv hp hcl K hK
          have dg : x 7 = .bool false := hv 7 (hp 7 (by kernel_rfl))
          have hS1 : PyS wq X (d 14) (d 16) (x 14) (x 16) w' := hS
          refine want_yes (by unfold pyA; rw [dg]; rfl) ?_
          unfold pyA at hK ⊢
          simp only [dg] at hK ⊢
          go_wp2
          exact hK (.string rep) w' (show PyS wq X (d 14) (d 16) (x 14) (x 16) w' from hS1) rfl
        · intro d x w' hS hdi hv hp hcl K hK
          have dg : x 7 = .bool false := hv 7 (hp 7 (by kernel_rfl))
          have hS1 : PyS wq X (d 14) (d 16) (x 14) (x 16) w' := hS
          refine want_yes (by unfold pyA; rw [dg]; rfl) ?_
          unfold pyA at hK ⊢
          simp only [dg] at hK ⊢
          go_wp2
          exact hK (.string rep) w' (show PyS wq X (d 14) (d 16) (x 14) (x 16) w' from hS1) rfl
        · intro d x w' hS hdi hv hp hcl K hK
          have d0 : x 8 = .string rep := hv 8 (hp 8 (by kernel_rfl))
          have d1 : x 9 = .string rep := hv 9 (hp 9 (by kernel_rfl))
          have dg : x 7 = .bool false := hv 7 (hp 7 (by kernel_rfl))
          have hS1 : PyS wq X (d 14) (d 16) (x 14) (x 16) w' := hS
          refine want_yes (by unfold pyA; rw [dg]; rfl) ?_
          unfold pyA at hK ⊢
          simp only [d0, d1, dg] at hK ⊢
          go_wp2
          exact hK (.bool false) w' (show PyS wq X (d 14) (d 16) (x 14) (x 16) w' from hS1) rfl
        · intro d x w' hS hdi hv hp hcl K hK
          have d0 : x 7 = .bool false := hv 7 (hp 7 (by kernel_rfl))
          have d1 : x 10 = .bool false := hv 10 (hp 10 (by kernel_rfl))
          have hS1 : PyS wq X (d 14) (d 16) (x 14) (x 16) w' := hS
          refine want_yes (rfl) ?_
          unfold pyA at hK ⊢
          simp only [d0, d1] at hK ⊢
          go_wp2
          exact hK (.bool false) w' (show PyS wq X (d 14) (d 16) (x 14) (x 16) w' from hS1) rfl
        · intro d x w' hS hdi hv hp hcl K hK
          have d0 : x 11 = .bool false := hv 11 (hp 11 (by kernel_rfl))
          have hS1 : PyS wq X (d 14) (d 16) (x 14) (x 16) w' := hS
          refine want_yes (rfl) ?_
          unfold pyA at hK ⊢
          simp only [d0] at hK ⊢
          go_wp2
          exact hK (.bool false) w' (show PyS wq X (d 14) (d 16) (x 14) (x 16) w' from hS1) rfl
        · intro d x w' hS hdi hv hp hcl K hK
          have dg : x 12 = .bool false := hv 12 (hp 12 (by kernel_rfl))
          have hS1 : PyS wq X (d 14) (d 16) (x 14) (x 16) w' := hS
          refine want_yes (by unfold pyA; rw [dg]; rfl) ?_
          unfold pyA at hK ⊢
          simp only [dg] at hK ⊢
          go_wp2
          exact hK (.pointer (some ⟨g, 0, none⟩)) w' (show PyS wq X (d 14) (d 16) (x 14) (x 16) w' from hS1) rfl
        · intro d x w' hS hdi hv hp hcl K hK
          have d0 : x 13 = .pointer (some ⟨g, 0, none⟩) := hv 13 (hp 13 (by kernel_rfl))
          have dg : x 12 = .bool false := hv 12 (hp 12 (by kernel_rfl))
          have hS1 : PyS wq X (d 14) (d 16) (x 14) (x 16) w' := hS
          refine want_yes (by unfold pyA; rw [dg]; rfl) ?_
          unfold pyA at hK ⊢
          simp only [d0, dg] at hK ⊢
          go_wp2_with fail
          refine (HOPP.out _ hS1.b).mono ?_
          rintro e w3 ⟨av, rfl, hr, hb⟩
          exact hK av w3 (show PyS wq X true (d 16) av (x 16) w3 from ⟨hS1.b.trans (hb.mono hS1.b.size), fun _ => EK.row_base hr hS1.b.size, fun e => EK.row_below (hS1.q e) hb⟩) trivial
        · intro d x w' hS hdi hv hp hcl K hK
          have dg : x 12 = .bool false := hv 12 (hp 12 (by kernel_rfl))
          have hS1 : PyS wq X (d 14) (d 16) (x 14) (x 16) w' := hS
          have z0 := obj_cell (obj_below HQ8.out hS1.b) 0
          have z1 := obj_cell (obj_below HQ8.out hS1.b) 1
          have z2 := obj_cell (obj_below HQ8.out hS1.b) 2
          simp only [List.getElem?_toArray, List.getElem?_cons_zero, List.getElem?_cons_succ] at z0 z1 z2
          refine want_yes (by unfold pyA; rw [dg]; rfl) ?_
          unfold pyA at hK ⊢
          simp only [dg] at hK ⊢
          go_wp2
          exact hK (.agg #[.int .i64 me, .int .i64 nx, .slice Au nu cu]) w' (show PyS wq X (d 14) (d 16) (x 14) (x 16) w' from hS1) rfl
        · intro d x w' hS hdi hv hp hcl K hK
          have d0 : x 15 = .agg #[.int .i64 me, .int .i64 nx, .slice Au nu cu] := hv 15 (hp 15 (by kernel_rfl))
          have dg : x 12 = .bool false := hv 12 (hp 12 (by kernel_rfl))
          have hS1 : PyS wq X (d 14) (d 16) (x 14) (x 16) w' := hS
          refine want_yes (by unfold pyA; rw [dg]; rfl) ?_
          unfold pyA at hK ⊢
          simp only [d0, dg] at hK ⊢
          go_wp2_with fail
          refine (HOPR.out _ hS1.b).mono ?_
          rintro e w3 ⟨av, rfl, hr, hb⟩
          exact hK av w3 (show PyS wq X (d 14) true (x 14) av w3 from ⟨hS1.b.trans (hb.mono hS1.b.size), fun e => EK.row_below (hS1.r e) hb, fun _ => EK.row_base hr hS1.b.size⟩) trivial
        · intro d x w' hS hdi hv hp hcl K hK
          have dg : x 12 = .bool false := hv 12 (hp 12 (by kernel_rfl))
          have hS1 : PyS wq X (d 14) (d 16) (x 14) (x 16) w' := hS
          have y14 : d 14 = true := hp 14 (by kernel_rfl)
          have y16 : d 16 = true := hp 16 (by kernel_rfl)
          refine want_yes (by unfold pyA; rw [dg]; rfl) ?_
          unfold pyA at hK ⊢
          simp only [dg] at hK ⊢
          go_wp2_with fail
          refine (ints_yes (hS1.r y14) (hS1.q y16)).mono ?_
          rintro e w3 ⟨rfl, hb⟩
          exact hK (.bool true) w3 (show PyS wq X (d 14) (d 16) (x 14) (x 16) w3 from ⟨hS1.b.trans (hb.mono hS1.b.size), fun e => EK.row_below (hS1.r e) hb, fun e => EK.row_below (hS1.q e) hb⟩) rfl
        · intro d x w' hS hdi hv hp hcl K hK
          have d0 : x 17 = .bool true := hv 17 (hp 17 (by kernel_rfl))
          have dg : x 12 = .bool false := hv 12 (hp 12 (by kernel_rfl))
          have hS1 : PyS wq X (d 14) (d 16) (x 14) (x 16) w' := hS
          refine want_yes (by unfold pyA; rw [dg]; rfl) ?_
          unfold pyA at hK ⊢
          simp only [d0, dg] at hK ⊢
          go_wp2
          exact hK (.bool false) w' (show PyS wq X (d 14) (d 16) (x 14) (x 16) w' from hS1) rfl
        · intro d x w' hS hdi hv hp hcl K hK
          have d0 : x 12 = .bool false := hv 12 (hp 12 (by kernel_rfl))
          have d1 : x 18 = .bool false := hv 18 (hp 18 (by kernel_rfl))
          have hS1 : PyS wq X (d 14) (d 16) (x 14) (x 16) w' := hS
          refine want_yes (rfl) ?_
          unfold pyA at hK ⊢
          simp only [d0, d1] at hK ⊢
          go_wp2
          exact hK (.bool false) w' (show PyS wq X (d 14) (d 16) (x 14) (x 16) w' from hS1) rfl
      · intro u hu d x w5 hS hd hv
        have HU := hide hu
        have hS1 : PyS wq X (d 14) (d 16) (x 14) (x 16) w5 := hS
        have e19 : x 19 = .bool false := hv 19 (by decide)
        have HRES := hide (show PcS w g t p c cm b8 ll w5 (.int .i64 ((k : Int) + 1)) from ⟨k + 1, ⟨me, nx, L⟩, _, rfl, hkl, (HPC.out.below HB5.out).below hS1.b, HLK.out⟩)
        clear hS hS1 hd hv hu
        unfold pyA
        simp only [e19]
        go_wp2_with fail
        refine ⟨?_, ?_⟩
        · rw [HU.out]
          (repeat apply Exists.intro)
          exact ⟨HRES.out, rfl⟩
        · show ll - (intOf (.int .i64 ((k : Int) + 1))).toNat < ll - (intOf (.int .i64 (k : Int))).toNat
          simp only [intOf]
          omega
    · have HB9 := hide hpc.b
      have hke : ll = k := by omega
      subst hke
      clear hpc hlk
      go_wp2_with fail
      refine (AW.out _).mono ?_
      rintro e w9 ⟨rfl, hb9⟩
      have HBZ := hide (HB9.out.trans (hb9.mono HB9.out.size))
      clear hb9
      go_wp2
      go_ret
      exact ⟨rfl, HBZ.out⟩
end Go.Proofs.Ythcnoamgkkbkcaa
