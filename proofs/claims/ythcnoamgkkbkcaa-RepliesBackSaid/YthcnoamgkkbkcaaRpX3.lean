/- Chapter 15, replies: two of them alive at once; the walk of RepliesBack. -/
import Derived.Test.YthcnoamgkkbkcaaRpX1
namespace Go.Proofs.Ythcnoamgkkbkcaa
open Go.RowKit

/-- Two servers' calls, apart from each other. -/
structure TwoR (w0 : World) (B g cm g2 cm2 : Nat) (S S2 : RS) (W : World) : Prop where
  ex : ∃ f f2, RV W B g cm S f ∧ RV W B g2 cm2 S2 f2 ∧ ∀ j, Ow g cm f j → ¬ Ow g2 cm2 f2 j
  ok : ROk S
  ok2 : ROk S2
  b : Below B w0 W
  bs : B ≤ w0.heap.size
section
variable {w0 W W' : World} {B g cm g2 cm2 : Nat} {S S2 : RS} {f : Int → Option Value}
theorem RV.owLt (h : RV W B g cm S f) {j : Nat} (e : Ow g cm f j) : j < W.heap.size := by
  rcases e with rfl | rfl | ⟨c, v, e1, e2⟩
  · exact h.lt.1
  · exact h.lt.2
  · exact (EK.sg_typed (h.yes c v e1).2 e2).2.1
theorem RV.fr {F : Nat → Prop} (h : RV W B g cm S f) (hf : Fr F W W') (hF : ∀ j, Ow g cm f j → ¬ F j) : RV W' B g cm S f :=
  ⟨hf.obj h.o (hF g (.inl rfl)), MK.mp_fr h.mp hf (hF cm (.inr (.inl rfl))), h.no, fun c v e => ⟨(h.yes c v e).1, EK.sg_fr (h.yes c v e).2 hf (fun k e2 => hF k (.inr (.inr ⟨c, v, e, e2⟩)))⟩, h.sep, h.bg⟩
theorem TwoR.symm (h : TwoR w0 B g cm g2 cm2 S S2 W) : TwoR w0 B g2 cm2 g cm S2 S W := by
  obtain ⟨f, f2, h1, h2, h3⟩ := h.ex
  exact ⟨⟨f2, f, h2, h1, fun j e e2 => h3 j e2 e⟩, h.ok2, h.ok, h.b, h.bs⟩
theorem TwoR.below (h : TwoR w0 B g cm g2 cm2 S S2 W) (hb : Below W.heap.size W W') : TwoR w0 B g cm g2 cm2 S S2 W' := by
  obtain ⟨f, f2, h1, h2, h3⟩ := h.ex
  exact ⟨⟨f, f2, h1.below hb, h2.below hb, h3⟩, h.ok, h.ok2, h.b.trans (hb.mono h1.bsz), h.bs⟩
theorem TwoR.take (h : TwoR w0 B g cm g2 cm2 S S2 W) (c id : Int) :
    Calls Try.prog 37 #[.pointer (some ⟨g, 0, none⟩), .int .i64 c, .int .i64 id] W fun e W' => e = .returned (.tuple #[.int .i64 (rTake S c id).2.1, .string (rTake S c id).2.2]) ∧ TwoR w0 B g cm g2 cm2 (rTake S c id).1 S2 W' := by
  obtain ⟨f, f2, h1, h2, h3⟩ := h.ex
  refine (takeR_any h1 h.ok c id).mono ?_
  rintro e W' ⟨rfl, f', a1, a2, a3, a4⟩
  refine ⟨rfl, ⟨f', f2, a1, h2.fr a3 (fun j e e2 => h3 j e2 e), fun j e e2 => ?_⟩, a2, h.ok2, h.b.trans (a3.below B h1.bsz (fun j hj e => by have := h1.owB e; omega)), h.bs⟩
  rcases a4 j e with e3 | e3
  · exact h3 j e3 e2
  · have := h2.owLt e2
    omega
theorem TwoR.text (h : TwoR w0 B g cm g2 cm2 S S2 W) :
    Calls Try.prog 40 #[.pointer (some ⟨g, 0, none⟩)] W fun e W' => e = .returned (.string ⟨(textR S).toArray⟩) ∧ TwoR w0 B g cm g2 cm2 S S2 W' := by
  obtain ⟨f, f2, h1, h2, h3⟩ := h.ex
  refine (textR_any h1 h.ok).mono ?_
  rintro e W' ⟨rfl, hb⟩
  exact ⟨rfl, h.below hb⟩
theorem TwoR.start (h : RR w0 B g cm S W) (h2 : RR W W.heap.size g2 cm2 S2 W') : TwoR w0 B g cm g2 cm2 S S2 W' := by
  obtain ⟨f, hv⟩ := h.rv
  obtain ⟨f2, hv2⟩ := h2.rv
  refine ⟨⟨f, f2, hv.below h2.b, hv2.base hv.bsz, fun j e e2 => ?_⟩, h.ok, h2.ok, h.b.trans (h2.b.mono hv.bsz), h.bs⟩
  have a1 := hv.owLt e
  have a2 := hv2.owB e2
  omega
end
/-- While the region that takes a call goes on. -/
def TaS (wq : World) (P : World → Prop) (d11 : Bool) (w' : World) : Prop := (d11 = false → w' = wq.drew) ∧ (d11 = true → P w')
def baA (g g2 ll lcap k : Nat) (a0 : Addr) (room : Int) (T : ByteArray) (u x : Nat → Value) : Act := ⟨#[.int .i64 room, .slice (some a0) ll lcap, undef, undef, u 4, .pointer (some ⟨g, 0, none⟩), .int .i64 (ll : Int), .string T, .pointer (some ⟨g2, 0, none⟩), .int .i64 0, .int .i64 (k : Int), x 15, x 16, u 13, u 14, .slice (some a0) ll lcap, .int .i64 1, .bool false, undef, .int .i64 room, .pointer (some ⟨g, 0, none⟩), .int .i64 (ll : Int), .slice (some a0) ll lcap, .int .i64 (ll : Int), .bool false, u 25, u 26, u 27, u 28, u 29, u 30, u 31, u 32, u 33, u 34, u 35, u 36, u 37, u 38, u 39, u 40, u 41, u 42, u 43, u 44, u 45, u 46, u 47, u 48, u 49, u 50, u 51, u 52, u 53, u 54, u 55, u 56, u 57, u 58, u 59, u 60, u 61, .pointer (some ⟨g, 0, none⟩), .string T, .tuple #[.pointer (some ⟨g2, 0, none⟩), .int .i64 0], .string T, .tuple #[.pointer (some ⟨g2, 0, none⟩), .int .i64 0], .pointer (some ⟨g2, 0, none⟩), .int .i64 0, .int .i64 0, .bool false, .bool false, .pointer (some ⟨g2, 0, none⟩), .bool false, .bool false, .bool false, .pointer (some ⟨g2, 0, none⟩), .string T, .string T, .bool false, .bool false, .int .i64 (k : Int), .slice (some a0) ll lcap, .int .i64 (ll : Int), .bool true, u 85, u 86, x 12, x 0, x 1, x 2, x 3, x 4, x 5, x 6, x 7, x 8, x 9, x 10, x 11, x 13, x 14, u 102, u 103, u 104, u 105, u 106, u 107, u 108, u 109, u 110, u 111, u 112, u 113, u 114, u 115, u 116, u 117, u 118, u 119, u 120, u 121, u 122, u 123, u 124, undef], []⟩
def baV (g _g2 ll lcap k : Nat) (a0 : Addr) (dc di how : Int) (rp : ByteArray) (qx : Nat) (qw : Value) : Prop :=
  match qx with
  | 0 => qw = .pointer (some ⟨g, 0, none⟩)
  | 1 => qw = .slice (some a0) ll lcap
  | 2 => qw = .int .i64 (k : Int)
  | 3 => qw = .pointer (some (a0.add (k * 4)))
  | 4 => qw = .pointer (some ⟨(a0.add (k * 4)).block, (a0.add (k * 4)).off + 1, none⟩)
  | 5 => qw = .int .i64 dc
  | 6 => qw = .slice (some a0) ll lcap
  | 7 => qw = .int .i64 (k : Int)
  | 8 => qw = .pointer (some (a0.add (k * 4)))
  | 9 => qw = .pointer (some ⟨(a0.add (k * 4)).block, (a0.add (k * 4)).off + 2, none⟩)
  | 10 => qw = .int .i64 di
  | 11 => qw = .tuple #[.int .i64 how, .string rp]
  | 12 => qw = .tuple #[.int .i64 how, .string rp]
  | 13 => qw = .int .i64 how
  | 14 => qw = .string rp
  | 15 => qw = .int .i64 how
  | 16 => qw = .string rp
  | _ => True
def bbA (g g2 ll lcap k : Nat) (a0 : Addr) (room : Int) (T : ByteArray) (how : Int) (rp : ByteArray) (u x : Nat → Value) : Act := ⟨#[.int .i64 room, .slice (some a0) ll lcap, undef, undef, u 4, .pointer (some ⟨g, 0, none⟩), .int .i64 (ll : Int), .string T, .pointer (some ⟨g2, 0, none⟩), .int .i64 0, .int .i64 (k : Int), .int .i64 how, .string rp, x 15, x 16, .slice (some a0) ll lcap, .int .i64 1, .bool false, undef, .int .i64 room, .pointer (some ⟨g, 0, none⟩), .int .i64 (ll : Int), .slice (some a0) ll lcap, .int .i64 (ll : Int), .bool false, u 25, u 26, u 27, u 28, u 29, u 30, u 31, u 32, u 33, u 34, u 35, u 36, u 37, u 38, u 39, u 40, u 41, u 42, u 43, u 44, u 45, u 46, u 47, u 48, u 49, u 50, u 51, u 52, u 53, u 54, u 55, u 56, u 57, u 58, u 59, u 60, u 61, .pointer (some ⟨g, 0, none⟩), .string T, .tuple #[.pointer (some ⟨g2, 0, none⟩), .int .i64 0], .string T, .tuple #[.pointer (some ⟨g2, 0, none⟩), .int .i64 0], .pointer (some ⟨g2, 0, none⟩), .int .i64 0, .int .i64 0, .bool false, .bool false, .pointer (some ⟨g2, 0, none⟩), .bool false, .bool false, .bool false, .pointer (some ⟨g2, 0, none⟩), .string T, .string T, .bool false, .bool false, .int .i64 (k : Int), .slice (some a0) ll lcap, .int .i64 (ll : Int), .bool true, u 85, u 86, u 87, u 88, u 89, u 90, u 91, u 92, u 93, u 94, u 95, u 96, u 97, u 98, u 99, u 100, u 101, x 12, x 0, x 1, x 2, x 3, x 4, x 5, x 6, x 7, x 8, x 9, x 10, x 11, x 13, x 14, u 117, u 118, u 119, u 120, u 121, u 122, u 123, u 124, undef], []⟩
def bbV (_g g2 ll lcap k : Nat) (a0 : Addr) (dc di how : Int) (rp : ByteArray) (qx : Nat) (qw : Value) : Prop :=
  match qx with
  | 0 => qw = .pointer (some ⟨g2, 0, none⟩)
  | 1 => qw = .slice (some a0) ll lcap
  | 2 => qw = .int .i64 (k : Int)
  | 3 => qw = .pointer (some (a0.add (k * 4)))
  | 4 => qw = .pointer (some ⟨(a0.add (k * 4)).block, (a0.add (k * 4)).off + 1, none⟩)
  | 5 => qw = .int .i64 dc
  | 6 => qw = .slice (some a0) ll lcap
  | 7 => qw = .int .i64 (k : Int)
  | 8 => qw = .pointer (some (a0.add (k * 4)))
  | 9 => qw = .pointer (some ⟨(a0.add (k * 4)).block, (a0.add (k * 4)).off + 2, none⟩)
  | 10 => qw = .int .i64 di
  | 11 => qw = .tuple #[.int .i64 how, .string rp]
  | 12 => qw = .tuple #[.int .i64 how, .string rp]
  | 13 => qw = .int .i64 how
  | 14 => qw = .string rp
  | 15 => qw = .int .i64 how
  | 16 => qw = .string rp
  | _ => True
def BaR (w : World) (g cm n : Nat) (wr : World) (iv : Value) : Prop :=
  ∃ (k : Nat) (S : RS), iv = .int .i64 (k : Int) ∧ k ≤ n ∧ RR w w.heap.size g cm S wr
def BbR (w : World) (g cm g2 cm2 n : Nat) (wr : World) (iv : Value) : Prop :=
  ∃ (k : Nat) (S : RS), iv = .int .i64 (k : Int) ∧ k ≤ n ∧ TwoR w w.heap.size g cm g2 cm2 S S wr
set_option maxHeartbeats 32000000 in
set_option maxRecDepth 100000 in
theorem walk_repliesBack (room : Int) (v : Value) (l : List RDeed) (w : World) (_hr : (Lit.int .i64 room).wf = true) (hv : RDeedArg w v l) (_hz : ∀ x ∈ l, x.wf) :
    Calls Try.prog 9 #[.int .i64 room, v] w fun e w' => e = .returned (.bool true) ∧ Below w.heap.size w w' := by
  have AW := hide (fun W => awake15 W)
  have HFW := hide (few15_any hv)
  obtain ⟨LA, lcap, rfl⟩ := hv.slice
  have hlm := hv.len
  simp only [maxLen] at hlm
  have HV := hide hv
  have HCAP := hide hv.cap
  obtain ⟨ll, hll⟩ : ∃ ll, ll = l.length := ⟨_, rfl⟩
  rw [← hll] at hlm HV HFW HCAP ⊢
  have HLL := hide hll
  clear hv hll _hz _hr
  have HN := hide (new_rr room w)
  go_enter Try.func9, Try.ntmps9
  go_wp2_with fail
  refine HFW.out.mono ?_
  rintro e w1 ⟨(rfl | ⟨rfl, hbig⟩), rfl⟩
  · go_wp2_with fail
    refine (AW.out _).mono ?_
    rintro e w2 ⟨rfl, hb⟩
    go_wp2
    go_ret
    exact ⟨rfl, hb⟩
  go_wp2_with fail
  refine HN.out.mono ?_
  rintro e w1 ⟨g, cm, rfl, h1⟩
  have HS := hide (show BaR w g cm ll w1 (.int .i64 0) from ⟨0, _, rfl, Nat.zero_le _, h1⟩)
  clear h1 HN
  go_wp2_with fail
  go_loopw [6] (fun iv wr => BaR w g cm ll wr iv) (fun iv _ => ll - (intOf iv).toNat)
  case atStart => exact HS.out
  case round =>
    obtain ⟨k, S, rfl, hk, hcr⟩ := hrel
    rcases Nat.lt_or_ge k ll with hkl | hkl
    · have hb := hcr.b
      obtain ⟨d, hde⟩ : ∃ d, d = l[k]'(by have := HLL.out; omega) := ⟨_, rfl⟩
      obtain ⟨kd, dc, di, dr⟩ := d
      have HDE := hide hde
      have hcapi : ll ≤ lcap := by have := HLL.out; have := HCAP.out; omega
      have hkli : (k : Int) < (ll : Int) := by omega
      clear hde
      obtain ⟨a0, cap0, e0, hc1, hc2, q0, q1, q2, q3⟩ := (HV.out.below hb).cells (k := k) (by have := HLL.out; omega)
      injection e0 with e0a e0b e0c
      subst e0a e0c
      simp only [maxLen] at hc2
      rw [← HDE.out] at q0 q1 q2 q3
      simp only at q0 q1 q2 q3
      have HC0 := hide (take_rr (hcr.below (Below.refl _ _).drew) dc di)
      obtain ⟨S1, hS1⟩ : ∃ S1, S1 = (rTake S dc di).1 := ⟨_, rfl⟩
      rw [← hS1] at HC0
      clear hb hcr hS1 hc1 e0b
      go_wp2_with fail
      refine wp_stl 11 (by kernel_rfl) (by kernel_rfl) ?_
      simp only [List.take_succ_cons, List.take_zero, List.drop_succ_cons, List.drop_zero]
      repeat still_step
      refine wpStill_nil ?_
      go_wp2_with fail
      refine HC0.out.mono ?_
      rintro e w3 ⟨rfl, hc3, -⟩
      clear q0 q1 q2 q3
      obtain ⟨a1, cap1, e0, hc1, -, q0, q1, q2, q3⟩ := (HV.out.below hc3.b).cells (k := k) (by have := HLL.out; omega)
      injection e0 with e0a e0b e0c
      injection e0a with e0a
      subst e0a
      rw [← HDE.out] at q0 q1 q2 q3
      simp only at q0 q1 q2 q3
      clear hc1 e0b e0c
      have HC3 := hide hc3
      by_cases h1 : kd = 1
      · have HC1 := hide (put_rr (hc3.below (Below.refl _ _).drew) dc di dr)
        clear hc3
        go_wp2_with fail
        refine wp_stl 16 (by kernel_rfl) (by kernel_rfl) ?_
        simp only [List.take_succ_cons, List.take_zero, List.drop_succ_cons, List.drop_zero]
        repeat still_step
        refine wpStill_nil ?_
        go_wp2_with fail
        refine HC1.out.mono ?_
        rintro e w4 ⟨rfl, hc4, -⟩
        have HRES := hide (show BaR w g cm ll w4 (.int .i64 ((k : Int) + 1)) from ⟨k + 1, _, rfl, hkl, hc4⟩)
        clear hc4 q0 q1 q2 q3
        go_wp2_with fail
        exact ⟨HRES.out, by simp only [intOf]; omega⟩
      · have h1b : (kd == 1) = false := by simpa using h1
        have HRES := hide (show BaR w g cm ll w3 (.int .i64 ((k : Int) + 1)) from ⟨k + 1, _, rfl, hkl, hc3⟩)
        clear hc3 h1
        go_wp2_with fail
        exact ⟨HRES.out, by simp only [intOf]; omega⟩
    · have hke : ll = k := by omega
      subst hke
      have HTX := hide (text_rr hcr)
      obtain ⟨T, hT⟩ : ∃ T : ByteArray, T = ⟨(textR S).toArray⟩ := ⟨_, rfl⟩
      have HRD := hide (fun W => read_text hcr.ok W)
      have HTX2 := hide (fun (W : World) (g2 cm2 : Nat) (h : TwoR w w.heap.size g cm g2 cm2 S S W) => h.symm.text)
      rw [← hT] at HTX HRD HTX2
      clear hcr hT
      go_wp2_with fail
      refine HTX.out.mono ?_
      rintro e w2 ⟨rfl, hc2, -⟩
      have HC2 := hide hc2
      clear hc2
      go_wp2_with fail
      refine (HRD.out w2).mono ?_
      rintro e w3 ⟨g2, cm2, rfl, hc3⟩
      have HTW := hide (TwoR.start HC2.out hc3)
      clear hc3
      go_wp2_with fail
      refine (HTX2.out _ _ _ HTW.out).mono ?_
      rintro e w4 ⟨rfl, hc4⟩
      have HS2 := hide (show BbR w g cm g2 cm2 ll w4 (.int .i64 0) from ⟨0, S, rfl, Nat.zero_le _, hc4.symm⟩)
      clear hc4
      go_wp2_with fail
      go_loopw [10] (fun iv wr => BbR w g cm g2 cm2 ll wr iv) (fun iv _ => ll - (intOf iv).toNat)
      case atStart => exact HS2.out
      case round =>
        obtain ⟨k, S, rfl, hk, hcr⟩ := hrel
        rcases Nat.lt_or_ge k ll with hkl | hkl
        · have hb := hcr.b
          obtain ⟨d, hde⟩ : ∃ d, d = l[k]'(by have := HLL.out; omega) := ⟨_, rfl⟩
          obtain ⟨kd, dc, di, dr⟩ := d
          have HDE := hide hde
          have hcapi : ll ≤ lcap := by have := HLL.out; have := HCAP.out; omega
          have hkli : (k : Int) < (ll : Int) := by omega
          clear hde
          obtain ⟨a0, cap0, e0, hc1, hc2, q0, q1, q2, q3⟩ := (HV.out.below hb).cells (k := k) (by have := HLL.out; omega)
          injection e0 with e0a e0b e0c
          subst e0a e0c
          simp only [maxLen] at hc2
          rw [← HDE.out] at q0 q1 q2 q3
          simp only at q0 q1 q2 q3
          have HC0 := hide ((hcr.below (Below.refl _ _).drew).take dc di)
          have HC1 := hide (fun (S1 : RS) (W : World) (h : TwoR w w.heap.size g cm g2 cm2 S1 S W) => (h.symm.below (Below.refl _ _).drew).take dc di)
          obtain ⟨P1, hP1⟩ : ∃ P1, P1 = rTake S dc di := ⟨_, rfl⟩
          rw [← hP1] at HC0
          simp only [← hP1] at HC1
          obtain ⟨S1, how, rp⟩ := P1
          simp only at HC0 HC1
          clear hb hcr hP1 hc1 e0b
          have HCQ := HC0
          clear HC0
          go_wp2_with fail
          obtain ⟨wq, hwq⟩ : ∃ W, W = wr := ⟨_, rfl⟩
          rw [← hwq] at q0 q1 q2 q3 HCQ ⊢
          clear hwq
          refine wp_region_c (baA g g2 ll lcap k a0 room T) (fun j => #[88, 89, 90, 91, 92, 93, 94, 95, 96, 97, 98, 99, 87, 100, 101, 11, 12].getD j 0) (fun d x w' => TaS wq (fun W => TwoR w w.heap.size g cm g2 cm2 S1 S W) (d 11) w') (fun qi qv => baV g g2 ll lcap k a0 dc di how rp qi qv) (by kernel_rfl) (by kernel_rfl) rfl ⟨fun _ => rfl, (fun e => by cases e)⟩ ?_ ?_ ?_
          · exact fun u => ⟨fun x v => rfl, fun x v => rfl, fun x v => rfl, fun x v => rfl, fun x v => rfl, fun x v => rfl, fun x v => rfl, fun x v => rfl, fun x v => rfl, fun x v => rfl, fun x v => rfl, fun x v => rfl, fun x v => rfl, fun x v => rfl, fun x v => rfl, fun x v => rfl, fun x v => rfl, trivial⟩
          · refine fun u => ⟨?_, ?_, ?_, ?_, ?_, ?_, ?_, ?_, ?_, ?_, ?_, ?_, ?_, ?_, ?_, ?_, ?_, trivial⟩
            · intro d x w' hS hdi hv hp hcl K hK
              refine ⟨rfl, ?_⟩
              unfold baA at hK ⊢
              go_wp2
              exact hK (.pointer (some ⟨g, 0, none⟩)) w' (show TaS wq (fun W => TwoR w w.heap.size g cm g2 cm2 S1 S W) (d 11) w' from hS) rfl
            · intro d x w' hS hdi hv hp hcl K hK
              refine ⟨rfl, ?_⟩
              unfold baA at hK ⊢
              go_wp2
              exact hK (.slice (some a0) ll lcap) w' (show TaS wq (fun W => TwoR w w.heap.size g cm g2 cm2 S1 S W) (d 11) w' from hS) rfl
            · intro d x w' hS hdi hv hp hcl K hK
              refine ⟨rfl, ?_⟩
              unfold baA at hK ⊢
              go_wp2
              exact hK (.int .i64 (k : Int)) w' (show TaS wq (fun W => TwoR w w.heap.size g cm g2 cm2 S1 S W) (d 11) w' from hS) rfl
            · intro d x w' hS hdi hv hp hcl K hK
              have d0 : x 1 = .slice (some a0) ll lcap := hv 1 (hp 1 (by kernel_rfl))
              have d1 : x 2 = .int .i64 (k : Int) := hv 2 (hp 2 (by kernel_rfl))
              refine ⟨rfl, ?_⟩
              unfold baA at hK ⊢
              simp only [d0, d1] at hK ⊢
              go_wp2
              exact hK (.pointer (some (a0.add (k * 4)))) w' (show TaS wq (fun W => TwoR w w.heap.size g cm g2 cm2 S1 S W) (d 11) w' from hS) rfl
            · intro d x w' hS hdi hv hp hcl K hK
              have d0 : x 3 = .pointer (some (a0.add (k * 4))) := hv 3 (hp 3 (by kernel_rfl))
              refine ⟨rfl, ?_⟩
              unfold baA at hK ⊢
              simp only [d0] at hK ⊢
              go_wp2
              exact hK (.pointer (some ⟨(a0.add (k * 4)).block, (a0.add (k * 4)).off + 1, none⟩)) w' (show TaS wq (fun W => TwoR w w.heap.size g cm g2 cm2 S1 S W) (d 11) w' from hS) rfl
            · intro d x w' hS hdi hv hp hcl K hK
              have d0 : x 4 = .pointer (some ⟨(a0.add (k * 4)).block, (a0.add (k * 4)).off + 1, none⟩) := hv 4 (hp 4 (by kernel_rfl))
              have na : d 11 = false := Bool.eq_false_iff.2 (fun hz => absurd (hcl 11 5 hz (by kernel_rfl)) (by rw [hdi]; decide))
              have hS1 : TaS wq (fun W => TwoR w w.heap.size g cm g2 cm2 S1 S W) (d 11) w' := hS
              obtain rfl := hS1.1 na
              refine ⟨rfl, ?_⟩
              unfold baA at hK ⊢
              simp only [d0] at hK ⊢
              go_wp2
              exact hK (.int .i64 dc) _ (show TaS wq (fun W => TwoR w w.heap.size g cm g2 cm2 S1 S W) (d 11) _ from hS1) rfl
            · intro d x w' hS hdi hv hp hcl K hK
              refine ⟨rfl, ?_⟩
              unfold baA at hK ⊢
              go_wp2
              exact hK (.slice (some a0) ll lcap) w' (show TaS wq (fun W => TwoR w w.heap.size g cm g2 cm2 S1 S W) (d 11) w' from hS) rfl
            · intro d x w' hS hdi hv hp hcl K hK
              refine ⟨rfl, ?_⟩
              unfold baA at hK ⊢
              go_wp2
              exact hK (.int .i64 (k : Int)) w' (show TaS wq (fun W => TwoR w w.heap.size g cm g2 cm2 S1 S W) (d 11) w' from hS) rfl
            · intro d x w' hS hdi hv hp hcl K hK
              have d0 : x 6 = .slice (some a0) ll lcap := hv 6 (hp 6 (by kernel_rfl))
              have d1 : x 7 = .int .i64 (k : Int) := hv 7 (hp 7 (by kernel_rfl))
              refine ⟨rfl, ?_⟩
              unfold baA at hK ⊢
              simp only [d0, d1] at hK ⊢
              go_wp2
              exact hK (.pointer (some (a0.add (k * 4)))) w' (show TaS wq (fun W => TwoR w w.heap.size g cm g2 cm2 S1 S W) (d 11) w' from hS) rfl
            · intro d x w' hS hdi hv hp hcl K hK
              have d0 : x 8 = .pointer (some (a0.add (k * 4))) := hv 8 (hp 8 (by kernel_rfl))
              refine ⟨rfl, ?_⟩
              unfold baA at hK ⊢
              simp only [d0] at hK ⊢
              go_wp2
              exact hK (.pointer (some ⟨(a0.add (k * 4)).block, (a0.add (k * 4)).off + 2, none⟩)) w' (show TaS wq (fun W => TwoR w w.heap.size g cm g2 cm2 S1 S W) (d 11) w' from hS) rfl
            · intro d x w' hS hdi hv hp hcl K hK
              have d0 : x 9 = .pointer (some ⟨(a0.add (k * 4)).block, (a0.add (k * 4)).off + 2, none⟩) := hv 9 (hp 9 (by kernel_rfl))
              have na : d 11 = false := Bool.eq_false_iff.2 (fun hz => absurd (hcl 11 10 hz (by kernel_rfl)) (by rw [hdi]; decide))
              have hS1 : TaS wq (fun W => TwoR w w.heap.size g cm g2 cm2 S1 S W) (d 11) w' := hS
              obtain rfl := hS1.1 na
              refine ⟨rfl, ?_⟩
              unfold baA at hK ⊢
              simp only [d0] at hK ⊢
              go_wp2
              exact hK (.int .i64 di) _ (show TaS wq (fun W => TwoR w w.heap.size g cm g2 cm2 S1 S W) (d 11) _ from hS1) rfl
            · intro d x w' hS hdi hv hp hcl K hK
              have d0 : x 0 = .pointer (some ⟨g, 0, none⟩) := hv 0 (hp 0 (by kernel_rfl))
              have d1 : x 5 = .int .i64 dc := hv 5 (hp 5 (by kernel_rfl))
              have d2 : x 10 = .int .i64 di := hv 10 (hp 10 (by kernel_rfl))
              have hS1 : TaS wq (fun W => TwoR w w.heap.size g cm g2 cm2 S1 S W) (d 11) w' := hS
              obtain rfl := hS1.1 hdi
              refine ⟨rfl, ?_⟩
              unfold baA at hK ⊢
              simp only [d0, d1, d2] at hK ⊢
              go_wp2_with fail
              refine HCQ.out.mono ?_
              rintro e w5 ⟨rfl, hc5⟩
              exact hK (.tuple #[.int .i64 how, .string rp]) w5 (show TaS wq (fun W => TwoR w w.heap.size g cm g2 cm2 S1 S W) true w5 from ⟨(fun e => by cases e), fun _ => hc5⟩) rfl
            · intro d x w' hS hdi hv hp hcl K hK
              have d0 : x 11 = .tuple #[.int .i64 how, .string rp] := hv 11 (hp 11 (by kernel_rfl))
              refine ⟨rfl, ?_⟩
              unfold baA at hK ⊢
              simp only [d0] at hK ⊢
              go_wp2
              exact hK (.tuple #[.int .i64 how, .string rp]) w' (show TaS wq (fun W => TwoR w w.heap.size g cm g2 cm2 S1 S W) (d 11) w' from hS) rfl
            · intro d x w' hS hdi hv hp hcl K hK
              have d0 : x 12 = .tuple #[.int .i64 how, .string rp] := hv 12 (hp 12 (by kernel_rfl))
              refine ⟨rfl, ?_⟩
              unfold baA at hK ⊢
              simp only [d0] at hK ⊢
              go_wp2
              exact hK (.int .i64 how) w' (show TaS wq (fun W => TwoR w w.heap.size g cm g2 cm2 S1 S W) (d 11) w' from hS) rfl
            · intro d x w' hS hdi hv hp hcl K hK
              have d0 : x 12 = .tuple #[.int .i64 how, .string rp] := hv 12 (hp 12 (by kernel_rfl))
              refine ⟨rfl, ?_⟩
              unfold baA at hK ⊢
              simp only [d0] at hK ⊢
              go_wp2
              exact hK (.string rp) w' (show TaS wq (fun W => TwoR w w.heap.size g cm g2 cm2 S1 S W) (d 11) w' from hS) rfl
            · intro d x w' hS hdi hv hp hcl K hK
              have d0 : x 13 = .int .i64 how := hv 13 (hp 13 (by kernel_rfl))
              refine ⟨rfl, ?_⟩
              unfold baA at hK ⊢
              simp only [d0] at hK ⊢
              go_wp2
              exact hK (.int .i64 how) w' (show TaS wq (fun W => TwoR w w.heap.size g cm g2 cm2 S1 S W) (d 11) w' from hS) rfl
            · intro d x w' hS hdi hv hp hcl K hK
              have d0 : x 14 = .string rp := hv 14 (hp 14 (by kernel_rfl))
              refine ⟨rfl, ?_⟩
              unfold baA at hK ⊢
              simp only [d0] at hK ⊢
              go_wp2
              exact hK (.string rp) w' (show TaS wq (fun W => TwoR w w.heap.size g cm g2 cm2 S1 S W) (d 11) w' from hS) rfl
          · intro u hu d x w5 hS hd hv
            have hS1 : TaS wq (fun W => TwoR w w.heap.size g cm g2 cm2 S1 S W) (d 11) w5 := hS
            have hc5 := hS1.2 (hd 11 (by decide))
            have f15 : x 15 = .int .i64 how := hv 15 (by decide)
            have f16 : x 16 = .string rp := hv 16 (by decide)
            have v4 : u 4 = u4 := by rw [hu]; rfl
            have v25 : u 25 = u25 := by rw [hu]; rfl
            have v26 : u 26 = u26 := by rw [hu]; rfl
            have v27 : u 27 = u27 := by rw [hu]; rfl
            have v28 : u 28 = u28 := by rw [hu]; rfl
            have v29 : u 29 = u29 := by rw [hu]; rfl
            have v30 : u 30 = u30 := by rw [hu]; rfl
            have v31 : u 31 = u31 := by rw [hu]; rfl
            have v32 : u 32 = u32 := by rw [hu]; rfl
            have v33 : u 33 = u33 := by rw [hu]; rfl
            have v34 : u 34 = u34 := by rw [hu]; rfl
            have v35 : u 35 = u35 := by rw [hu]; rfl
            have v36 : u 36 = u36 := by rw [hu]; rfl
            have v37 : u 37 = u37 := by rw [hu]; rfl
            have v38 : u 38 = u38 := by rw [hu]; rfl
            have v39 : u 39 = u39 := by rw [hu]; rfl
            have v40 : u 40 = u40 := by rw [hu]; rfl
            have v41 : u 41 = u41 := by rw [hu]; rfl
            have v42 : u 42 = u42 := by rw [hu]; rfl
            have v43 : u 43 = u43 := by rw [hu]; rfl
            have v44 : u 44 = u44 := by rw [hu]; rfl
            have v45 : u 45 = u45 := by rw [hu]; rfl
            have v46 : u 46 = u46 := by rw [hu]; rfl
            have v47 : u 47 = u47 := by rw [hu]; rfl
            have v48 : u 48 = u48 := by rw [hu]; rfl
            have v49 : u 49 = u49 := by rw [hu]; rfl
            have v50 : u 50 = u50 := by rw [hu]; rfl
            have v51 : u 51 = u51 := by rw [hu]; rfl
            have v52 : u 52 = u52 := by rw [hu]; rfl
            have v53 : u 53 = u53 := by rw [hu]; rfl
            have v54 : u 54 = u54 := by rw [hu]; rfl
            have v55 : u 55 = u55 := by rw [hu]; rfl
            have v56 : u 56 = u56 := by rw [hu]; rfl
            have v57 : u 57 = u57 := by rw [hu]; rfl
            have v58 : u 58 = u58 := by rw [hu]; rfl
            have v59 : u 59 = u59 := by rw [hu]; rfl
            have v60 : u 60 = u60 := by rw [hu]; rfl
            have v61 : u 61 = u61 := by rw [hu]; rfl
            clear hS hS1 hd hv hu
            unfold baA
            simp only [f15, f16, v4, v25, v26, v27, v28, v29, v30, v31, v32, v33, v34, v35, v36, v37, v38, v39, v40, v41, v42, v43, v44, v45, v46, v47, v48, v49, v50, v51, v52, v53, v54, v55, v56, v57, v58, v59, v60, v61]
            clear f15 f16 v4 v25 v26 v27 v28 v29 v30 v31 v32 v33 v34 v35 v36 v37 v38 v39 v40 v41 v42 v43 v44 v45 v46 v47 v48 v49 v50 v51 v52 v53 v54 v55 v56 v57 v58 v59 v60 v61
            clear q0 q1 q2 q3 HCQ
            have hb5 := hc5.b
            obtain ⟨a1, cap1, e0, hc1, -, q0, q1, q2, q3⟩ := (HV.out.below hb5).cells (k := k) (by have := HLL.out; omega)
            injection e0 with e0a e0b e0c
            injection e0a with e0a
            subst e0a
            rw [← HDE.out] at q0 q1 q2 q3
            simp only at q0 q1 q2 q3
            clear hc1 e0b e0c
            have HCQ := hide (HC1.out _ _ hc5)
            clear hc5 hb5 HC1
            go_wp2_with fail
            obtain ⟨wq, hwq⟩ : ∃ W, W = w5 := ⟨_, rfl⟩
            rw [← hwq] at q0 q1 q2 q3 HCQ ⊢
            clear hwq
            refine wp_region_c (bbA g g2 ll lcap k a0 room T how rp) (fun j => #[103, 104, 105, 106, 107, 108, 109, 110, 111, 112, 113, 114, 102, 115, 116, 13, 14].getD j 0) (fun d x w' => TaS wq (fun W => TwoR w w.heap.size g2 cm2 g cm S1 S1 W) (d 11) w') (fun qi qv => bbV g g2 ll lcap k a0 dc di how rp qi qv) (by kernel_rfl) (by kernel_rfl) rfl ⟨fun _ => rfl, (fun e => by cases e)⟩ ?_ ?_ ?_
            · exact fun u => ⟨fun x v => rfl, fun x v => rfl, fun x v => rfl, fun x v => rfl, fun x v => rfl, fun x v => rfl, fun x v => rfl, fun x v => rfl, fun x v => rfl, fun x v => rfl, fun x v => rfl, fun x v => rfl, fun x v => rfl, fun x v => rfl, fun x v => rfl, fun x v => rfl, fun x v => rfl, trivial⟩
            · refine fun u => ⟨?_, ?_, ?_, ?_, ?_, ?_, ?_, ?_, ?_, ?_, ?_, ?_, ?_, ?_, ?_, ?_, ?_, trivial⟩
              · intro d x w' hS hdi hv hp hcl K hK
                refine ⟨rfl, ?_⟩
                unfold bbA at hK ⊢
                go_wp2
                exact hK (.pointer (some ⟨g2, 0, none⟩)) w' (show TaS wq (fun W => TwoR w w.heap.size g2 cm2 g cm S1 S1 W) (d 11) w' from hS) rfl
              · intro d x w' hS hdi hv hp hcl K hK
                refine ⟨rfl, ?_⟩
                unfold bbA at hK ⊢
                go_wp2
                exact hK (.slice (some a0) ll lcap) w' (show TaS wq (fun W => TwoR w w.heap.size g2 cm2 g cm S1 S1 W) (d 11) w' from hS) rfl
              · intro d x w' hS hdi hv hp hcl K hK
                refine ⟨rfl, ?_⟩
                unfold bbA at hK ⊢
                go_wp2
                exact hK (.int .i64 (k : Int)) w' (show TaS wq (fun W => TwoR w w.heap.size g2 cm2 g cm S1 S1 W) (d 11) w' from hS) rfl
              · intro d x w' hS hdi hv hp hcl K hK
                have d0 : x 1 = .slice (some a0) ll lcap := hv 1 (hp 1 (by kernel_rfl))
                have d1 : x 2 = .int .i64 (k : Int) := hv 2 (hp 2 (by kernel_rfl))
                refine ⟨rfl, ?_⟩
                unfold bbA at hK ⊢
                simp only [d0, d1] at hK ⊢
                go_wp2
                exact hK (.pointer (some (a0.add (k * 4)))) w' (show TaS wq (fun W => TwoR w w.heap.size g2 cm2 g cm S1 S1 W) (d 11) w' from hS) rfl
              · intro d x w' hS hdi hv hp hcl K hK
                have d0 : x 3 = .pointer (some (a0.add (k * 4))) := hv 3 (hp 3 (by kernel_rfl))
                refine ⟨rfl, ?_⟩
                unfold bbA at hK ⊢
                simp only [d0] at hK ⊢
                go_wp2
                exact hK (.pointer (some ⟨(a0.add (k * 4)).block, (a0.add (k * 4)).off + 1, none⟩)) w' (show TaS wq (fun W => TwoR w w.heap.size g2 cm2 g cm S1 S1 W) (d 11) w' from hS) rfl
              · intro d x w' hS hdi hv hp hcl K hK
                have d0 : x 4 = .pointer (some ⟨(a0.add (k * 4)).block, (a0.add (k * 4)).off + 1, none⟩) := hv 4 (hp 4 (by kernel_rfl))
                have na : d 11 = false := Bool.eq_false_iff.2 (fun hz => absurd (hcl 11 5 hz (by kernel_rfl)) (by rw [hdi]; decide))
                have hS1 : TaS wq (fun W => TwoR w w.heap.size g2 cm2 g cm S1 S1 W) (d 11) w' := hS
                obtain rfl := hS1.1 na
                refine ⟨rfl, ?_⟩
                unfold bbA at hK ⊢
                simp only [d0] at hK ⊢
                go_wp2
                exact hK (.int .i64 dc) _ (show TaS wq (fun W => TwoR w w.heap.size g2 cm2 g cm S1 S1 W) (d 11) _ from hS1) rfl
              · intro d x w' hS hdi hv hp hcl K hK
                refine ⟨rfl, ?_⟩
                unfold bbA at hK ⊢
                go_wp2
                exact hK (.slice (some a0) ll lcap) w' (show TaS wq (fun W => TwoR w w.heap.size g2 cm2 g cm S1 S1 W) (d 11) w' from hS) rfl
              · intro d x w' hS hdi hv hp hcl K hK
                refine ⟨rfl, ?_⟩
                unfold bbA at hK ⊢
                go_wp2
                exact hK (.int .i64 (k : Int)) w' (show TaS wq (fun W => TwoR w w.heap.size g2 cm2 g cm S1 S1 W) (d 11) w' from hS) rfl
              · intro d x w' hS hdi hv hp hcl K hK
                have d0 : x 6 = .slice (some a0) ll lcap := hv 6 (hp 6 (by kernel_rfl))
                have d1 : x 7 = .int .i64 (k : Int) := hv 7 (hp 7 (by kernel_rfl))
                refine ⟨rfl, ?_⟩
                unfold bbA at hK ⊢
                simp only [d0, d1] at hK ⊢
                go_wp2
                exact hK (.pointer (some (a0.add (k * 4)))) w' (show TaS wq (fun W => TwoR w w.heap.size g2 cm2 g cm S1 S1 W) (d 11) w' from hS) rfl
              · intro d x w' hS hdi hv hp hcl K hK
                have d0 : x 8 = .pointer (some (a0.add (k * 4))) := hv 8 (hp 8 (by kernel_rfl))
                refine ⟨rfl, ?_⟩
                unfold bbA at hK ⊢
                simp only [d0] at hK ⊢
                go_wp2
                exact hK (.pointer (some ⟨(a0.add (k * 4)).block, (a0.add (k * 4)).off + 2, none⟩)) w' (show TaS wq (fun W => TwoR w w.heap.size g2 cm2 g cm S1 S1 W) (d 11) w' from hS) rfl
              · intro d x w' hS hdi hv hp hcl K hK
                have d0 : x 9 = .pointer (some ⟨(a0.add (k * 4)).block, (a0.add (k * 4)).off + 2, none⟩) := hv 9 (hp 9 (by kernel_rfl))
                have na : d 11 = false := Bool.eq_false_iff.2 (fun hz => absurd (hcl 11 10 hz (by kernel_rfl)) (by rw [hdi]; decide))
                have hS1 : TaS wq (fun W => TwoR w w.heap.size g2 cm2 g cm S1 S1 W) (d 11) w' := hS
                obtain rfl := hS1.1 na
                refine ⟨rfl, ?_⟩
                unfold bbA at hK ⊢
                simp only [d0] at hK ⊢
                go_wp2
                exact hK (.int .i64 di) _ (show TaS wq (fun W => TwoR w w.heap.size g2 cm2 g cm S1 S1 W) (d 11) _ from hS1) rfl
              · intro d x w' hS hdi hv hp hcl K hK
                have d0 : x 0 = .pointer (some ⟨g2, 0, none⟩) := hv 0 (hp 0 (by kernel_rfl))
                have d1 : x 5 = .int .i64 dc := hv 5 (hp 5 (by kernel_rfl))
                have d2 : x 10 = .int .i64 di := hv 10 (hp 10 (by kernel_rfl))
                have hS1 : TaS wq (fun W => TwoR w w.heap.size g2 cm2 g cm S1 S1 W) (d 11) w' := hS
                obtain rfl := hS1.1 hdi
                refine ⟨rfl, ?_⟩
                unfold bbA at hK ⊢
                simp only [d0, d1, d2] at hK ⊢
                go_wp2_with fail
                refine HCQ.out.mono ?_
                rintro e w5 ⟨rfl, hc5⟩
                exact hK (.tuple #[.int .i64 how, .string rp]) w5 (show TaS wq (fun W => TwoR w w.heap.size g2 cm2 g cm S1 S1 W) true w5 from ⟨(fun e => by cases e), fun _ => hc5⟩) rfl
              · intro d x w' hS hdi hv hp hcl K hK
                have d0 : x 11 = .tuple #[.int .i64 how, .string rp] := hv 11 (hp 11 (by kernel_rfl))
                refine ⟨rfl, ?_⟩
                unfold bbA at hK ⊢
                simp only [d0] at hK ⊢
                go_wp2
                exact hK (.tuple #[.int .i64 how, .string rp]) w' (show TaS wq (fun W => TwoR w w.heap.size g2 cm2 g cm S1 S1 W) (d 11) w' from hS) rfl
              · intro d x w' hS hdi hv hp hcl K hK
                have d0 : x 12 = .tuple #[.int .i64 how, .string rp] := hv 12 (hp 12 (by kernel_rfl))
                refine ⟨rfl, ?_⟩
                unfold bbA at hK ⊢
                simp only [d0] at hK ⊢
                go_wp2
                exact hK (.int .i64 how) w' (show TaS wq (fun W => TwoR w w.heap.size g2 cm2 g cm S1 S1 W) (d 11) w' from hS) rfl
              · intro d x w' hS hdi hv hp hcl K hK
                have d0 : x 12 = .tuple #[.int .i64 how, .string rp] := hv 12 (hp 12 (by kernel_rfl))
                refine ⟨rfl, ?_⟩
                unfold bbA at hK ⊢
                simp only [d0] at hK ⊢
                go_wp2
                exact hK (.string rp) w' (show TaS wq (fun W => TwoR w w.heap.size g2 cm2 g cm S1 S1 W) (d 11) w' from hS) rfl
              · intro d x w' hS hdi hv hp hcl K hK
                have d0 : x 13 = .int .i64 how := hv 13 (hp 13 (by kernel_rfl))
                refine ⟨rfl, ?_⟩
                unfold bbA at hK ⊢
                simp only [d0] at hK ⊢
                go_wp2
                exact hK (.int .i64 how) w' (show TaS wq (fun W => TwoR w w.heap.size g2 cm2 g cm S1 S1 W) (d 11) w' from hS) rfl
              · intro d x w' hS hdi hv hp hcl K hK
                have d0 : x 14 = .string rp := hv 14 (hp 14 (by kernel_rfl))
                refine ⟨rfl, ?_⟩
                unfold bbA at hK ⊢
                simp only [d0] at hK ⊢
                go_wp2
                exact hK (.string rp) w' (show TaS wq (fun W => TwoR w w.heap.size g2 cm2 g cm S1 S1 W) (d 11) w' from hS) rfl
            · intro u hu d x w5 hS hd hv
              have hS1 : TaS wq (fun W => TwoR w w.heap.size g2 cm2 g cm S1 S1 W) (d 11) w5 := hS
              have hc5 := hS1.2 (hd 11 (by decide))
              have f15 : x 15 = .int .i64 how := hv 15 (by decide)
              have f16 : x 16 = .string rp := hv 16 (by decide)
              have v4 : u 4 = u4 := by rw [hu]; rfl
              have v25 : u 25 = u25 := by rw [hu]; rfl
              have v26 : u 26 = u26 := by rw [hu]; rfl
              have v27 : u 27 = u27 := by rw [hu]; rfl
              have v28 : u 28 = u28 := by rw [hu]; rfl
              have v29 : u 29 = u29 := by rw [hu]; rfl
              have v30 : u 30 = u30 := by rw [hu]; rfl
              have v31 : u 31 = u31 := by rw [hu]; rfl
              have v32 : u 32 = u32 := by rw [hu]; rfl
              have v33 : u 33 = u33 := by rw [hu]; rfl
              have v34 : u 34 = u34 := by rw [hu]; rfl
              have v35 : u 35 = u35 := by rw [hu]; rfl
              have v36 : u 36 = u36 := by rw [hu]; rfl
              have v37 : u 37 = u37 := by rw [hu]; rfl
              have v38 : u 38 = u38 := by rw [hu]; rfl
              have v39 : u 39 = u39 := by rw [hu]; rfl
              have v40 : u 40 = u40 := by rw [hu]; rfl
              have v41 : u 41 = u41 := by rw [hu]; rfl
              have v42 : u 42 = u42 := by rw [hu]; rfl
              have v43 : u 43 = u43 := by rw [hu]; rfl
              have v44 : u 44 = u44 := by rw [hu]; rfl
              have v45 : u 45 = u45 := by rw [hu]; rfl
              have v46 : u 46 = u46 := by rw [hu]; rfl
              have v47 : u 47 = u47 := by rw [hu]; rfl
              have v48 : u 48 = u48 := by rw [hu]; rfl
              have v49 : u 49 = u49 := by rw [hu]; rfl
              have v50 : u 50 = u50 := by rw [hu]; rfl
              have v51 : u 51 = u51 := by rw [hu]; rfl
              have v52 : u 52 = u52 := by rw [hu]; rfl
              have v53 : u 53 = u53 := by rw [hu]; rfl
              have v54 : u 54 = u54 := by rw [hu]; rfl
              have v55 : u 55 = u55 := by rw [hu]; rfl
              have v56 : u 56 = u56 := by rw [hu]; rfl
              have v57 : u 57 = u57 := by rw [hu]; rfl
              have v58 : u 58 = u58 := by rw [hu]; rfl
              have v59 : u 59 = u59 := by rw [hu]; rfl
              have v60 : u 60 = u60 := by rw [hu]; rfl
              have v61 : u 61 = u61 := by rw [hu]; rfl
              clear hS hS1 hd hv hu
              unfold bbA
              simp only [f15, f16, v4, v25, v26, v27, v28, v29, v30, v31, v32, v33, v34, v35, v36, v37, v38, v39, v40, v41, v42, v43, v44, v45, v46, v47, v48, v49, v50, v51, v52, v53, v54, v55, v56, v57, v58, v59, v60, v61]
              clear f15 f16 v4 v25 v26 v27 v28 v29 v30 v31 v32 v33 v34 v35 v36 v37 v38 v39 v40 v41 v42 v43 v44 v45 v46 v47 v48 v49 v50 v51 v52 v53 v54 v55 v56 v57 v58 v59 v60 v61
              have HRES := hide (show BbR w g cm g2 cm2 ll w5 (.int .i64 ((k : Int) + 1)) from ⟨k + 1, S1, rfl, hkl, hc5.symm⟩)
              clear hc5 q0 q1 q2 q3
              go_wp2_with fail
              exact ⟨HRES.out, by simp only [intOf]; omega⟩
        · have hke : ll = k := by omega
          subst hke
          have HB2 := hide hcr.b
          clear hcr
          go_wp2_with fail
          refine (AW.out _).mono ?_
          rintro e w9 ⟨rfl, hb9⟩
          have HB9 := hide (HB2.out.trans (hb9.mono HB2.out.size))
          clear hb9
          go_wp2
          go_ret
          exact ⟨rfl, HB9.out⟩
end Go.Proofs.Ythcnoamgkkbkcaa
