/- Chapter 09, sector: the walk of SectorTorn. -/
import Derived.Test.YtpebilhdlblgoaaSt3
import Derived.Test.YtpebilhdlblgoaaOrd7
namespace Go.Proofs.Ytpebilhdlblgoaa
open Go.RowKit

theorem wp_slice_T {P : Program} {w : World} {o : Oper} {a : Act} {K : Act → World → Prop} {Q : Exit → Act → World → Prop} (ty : TypeId) (x : Operand) (lo hi : Option Operand) (ho : o.op = .slice ty x lo hi none) {v u : Value} {l' h' : Option Value} (hx : a.eval x = v) (hl : lo.map a.eval = l') (hh : hi.map a.eval = h')
    (hrun : (Instr.sliceAt ty v l' h' none).run P w = .ok u w) (h : K (a.put o.dst u) w) : Oper.wp P o a w K Q := by
  unfold Oper.wp execOp
  simp only [ho, hx, hl, hh, Option.map_none, Sem.run_bind, hrun, Result.andThen_ok, Sem.run_pure]
  exact h
def torD (a b : UInt8) : Dev := (((newD 1).puts 0 (ofS a) 1).flush).puts 0 (ofS b) 1
theorem torD_now (a b : UInt8) : (torD a b).now = [ofS b] := by
  show ((((newD 1).now.set 0 (chunk (ofS a) 0))).set 0 (chunk (ofS b) 0)) = _
  have e : ∀ c : UInt8, chunk (ofS c) 0 = ofS c := fun c => by
    unfold chunk
    rw [extract_str]
    unfold ofS
    rw [str_list]
    simp [ofL]
  rw [e, e]
  rfl
theorem torD_sure (a b : UInt8) : ∀ k, (torD a b).sure k = if k = 0 then some (ofS a) else none := fun k => by
  have e : ∀ c : UInt8, chunk (ofS c) 0 = ofS c := fun c => by
    unfold chunk
    rw [extract_str]
    unfold ofS
    rw [str_list]
    simp [ofL]
  unfold torD
  rw [puts_sure _ _ _ 1 (by show 0 + 1 ≤ ((newD 1).puts 0 (ofS a) 1).now.length; rw [puts_len]; decide)]
  by_cases hk : k = 0
  · subst hk
    rw [if_pos (by decide), if_pos rfl]
    show some ((none : Option ByteArray).getD (((newD 1).now.set 0 (chunk (ofS a) 0)).getD 0 ⟨#[]⟩)) = _
    rw [e]
    rfl
  · rw [if_neg (by omega), if_neg hk]
    rfl
theorem torD_loose (a b : UInt8) : looseL (torD a b) = [0] := by
  unfold looseL
  rw [torD_now]
  show ([0].filter fun i : Nat => ((torD a b).sure (i : Int)).isSome).map (fun i : Nat => (i : Int)) = [0]
  simp [torD_sure]
theorem torD_ok (a b : UInt8) : Dok (torD a b) := (((newD_ok 1).puts (by decide) (by rfl)).flush).puts (by show 0 + 1 ≤ ((newD 1).puts 0 (ofS a) 1).now.length; rw [puts_len]; decide) (by rfl)
theorem tornS_zero {a b : ByteArray} (h : a.size = 64) : tornS b a 0 = a := by
  unfold tornS
  rw [h, show b.extract 0 0 = ⟨#[]⟩ by rw [extract_str]; simp, plain_eq h]
theorem torD_crash (a b : UInt8) (tear : Int) (k : Nat) (hk : k = if 0 < tear ∧ tear < 64 then tear.toNat else 0) : ((torD a b).crash 0 tear).now = [tornS (ofS b) (ofS a) k] := by
  have hl : (looseL (torD a b)).length = 1 := by rw [torD_loose]; rfl
  have hg : ((looseL (torD a b)).getD 0 0).toNat = 0 := by rw [torD_loose]; rfl
  have hs : sureD (torD a b) 0 = ofS a := by unfold sureD; rw [torD_sure]; rfl
  have hkb : kb 0 0 = false := by decide +kernel
  unfold Dev.crash
  rw [hl]
  by_cases ht : 0 < tear ∧ tear < 64
  · have h2 : (crN (torD a b) 0 tear 0).2 = false := decide_eq_false (by omega)
    rw [if_pos ht] at hk
    rw [crN_torn hkb h2 hg hs rfl hk.symm]
    show ((torD a b).now.set 0 _) = _
    rw [show (crN (torD a b) 0 tear 0).1 = (torD a b).now from rfl, torD_now]
    rfl
  · have h2 : (crN (torD a b) 0 tear 0).2 = true := decide_eq_true (by omega)
    rw [if_neg ht] at hk
    rw [crN_plain hkb h2 hg hs, hk]
    show ((torD a b).now.set 0 _) = _
    rw [torD_now]
    show [ofS a] = [_]
    rw [tornS_zero rfl]
theorem torD_read (a b : UInt8) (tear : Int) (k : Nat) (hk : k = if 0 < tear ∧ tear < 64 then tear.toNat else 0) : ((torD a b).crash 0 tear).read 0 1 = tornS (ofS b) (ofS a) k := by
  unfold Dev.read
  rw [torD_crash a b tear k hk]
  simp [catL]
def toA (a b : UInt8) (k : Nat) (p q : ByteArray) (u x : Nat → Value) : Act := ⟨#[.int .u8 (a.toNat : Int), .int .u8 (b.toNat : Int), u 2, u 3, u 4, u 5, x 18, u 7, .string (p ++ q), .int .i64 0, .int .i64 (k : Int), u 11, u 12, u 13, u 14, u 15, u 16, u 17, u 18, u 19, u 20, u 21, u 22, u 23, u 24, u 25, u 26, u 27, u 28, u 29, u 30, u 31, u 32, u 33, u 34, u 35, u 36, x 0, x 1, x 2, x 3, x 4, x 5, x 6, x 7, x 8, x 9, x 10, x 11, x 12, x 13, x 14, x 15, x 16, x 17], []⟩
def toV (a b : UInt8) (k : Nat) (p q : ByteArray) (qx : Nat) (qw : Value) : Prop :=
  match qx with
  | 0 => qw = .int .i64 0
  | 1 => qw = .bool true
  | 2 => qw = .bool true
  | 3 => qw = .string (p ++ q)
  | 4 => qw = .int .u8 (b.toNat : Int)
  | 5 => qw = .string (ofS b)
  | 6 => qw = .int .i64 (k : Int)
  | 7 => qw = .string p
  | 8 => qw = .int .u8 (a.toNat : Int)
  | 9 => qw = .string (ofS a)
  | 10 => qw = .int .i64 (k : Int)
  | 11 => qw = .string q
  | 12 => qw = .string (p ++ q)
  | 13 => qw = .bool true
  | 14 => qw = .bool true
  | 15 => qw = .bool true
  | 16 => qw = .bool true
  | 17 => qw = .bool true
  | 18 => qw = .bool true
  | _ => True
set_option maxHeartbeats 8000000 in
set_option maxRecDepth 100000 in
theorem torn_walk (a b : UInt8) (tear : Int) (w : World) : Calls Try.prog 8 #[.int .u8 (a.toNat : Int), .int .u8 (b.toNat : Int), .int .i64 tear] w fun e w' => e = .returned (.bool true) ∧ Below w.heap.size w w' := by
  obtain ⟨k, hk⟩ : ∃ k : Nat, k = if 0 < tear ∧ tear < 64 then tear.toNat else 0 := ⟨_, rfl⟩
  have hk64 : k ≤ 64 := by rw [hk]; split <;> omega
  obtain ⟨p, hp⟩ : ∃ p, p = (ofS b).extract 0 k := ⟨_, rfl⟩
  obtain ⟨q, hq⟩ : ∃ q, q = (ofS a).extract k (ofS a).size := ⟨_, rfl⟩
  have hsz : p.size + q.size ≤ 9223372036854775807 := by
    rw [hp, hq, ByteArray.size_extract, ByteArray.size_extract]
    have e1 : (ofS a).size = 64 := rfl
    have e2 : (ofS b).size = 64 := rfl
    omega
  have HRD := hide (show ((torD a b).crash 0 tear).read 0 1 = p ++ q by rw [torD_read a b tear k hk, hp, hq]; rfl)
  have hkb : (k : Int) ≤ ((ofS b).size : Int) := by show (k : Int) ≤ ((64 : Nat) : Int); omega
  have HS1 : Hid (∀ W : World, (Instr.sliceAt 9 (.string (ofS b)) none (some (.int .i64 (k : Int))) none).run Try.prog W = .ok (.string p) W) := hide (fun W => by
    have u1 : k ≤ (ofS b).size := by show k ≤ 64; omega
    simp [Instr.sliceAt, Instr.slice, Instr.sliceBounds, Instr.sliceBound, asIntOf, run_underlying Try.underlying9, u1, hp])
  have HS2 : Hid (∀ W : World, (Instr.sliceAt 9 (.string (ofS a)) (some (.int .i64 (k : Int))) none none).run Try.prog W = .ok (.string q) W) := hide (fun W => by
    have u1 : k ≤ (ofS a).size := by show k ≤ 64; omega
    simp [Instr.sliceAt, Instr.slice, Instr.sliceBounds, Instr.sliceBound, asIntOf, run_underlying Try.underlying9, u1, hq])
  have HK := hide hk
  clear hk hp hq hkb
  rcases (by omega : tear ≤ 0 ∨ (0 < tear ∧ 64 ≤ tear) ∨ (0 < tear ∧ tear < 64)) with ht | ⟨ht, ht2⟩ | ⟨ht, ht2⟩
  · have hk0 : k = 0 := by rw [HK.out, if_neg (by omega)]
    subst hk0
    have ht3 : ¬ 0 < tear := by omega
    go_enter Try.func8, Try.ntmps8
    go_wp2_with fail
    refine (dnew_any 1 _).mono ?_
    rintro e w1 ⟨g, c, r, rfl, hv1, hB1, hg, hc, hr⟩
    go_wp2_with fail
    refine (of_any a _).mono ?_
    rintro e w2 ⟨rfl, hb2⟩
    have hv2 := hv1.below hb2
    have hB2 := hB1.trans (hb2.mono hB1.size)
    clear hv1 hB1 hb2
    go_wp2_with fail
    refine (dwrite_ok (cap := 1) (L := 1) hv2 rfl 0 1 (ofS a) rfl (by decide) (by decide) (by decide) rfl).mono ?_
    rintro e w3 ⟨rfl, hv3, hf3⟩
    have hB3 := hB2.trans (hf3.below _ hB2.size (fun k hk e => by omega))
    clear hv2 hf3 hB2
    go_wp2_with fail
    refine (flush_any hv3).mono ?_
    rintro e w4 ⟨rfl, hv4, hf4, -⟩
    have hB4 := hB3.trans (hf4.below _ hB3.size (fun k hk e => by omega))
    clear hv3 hf4 hB3
    go_wp2_with fail
    refine (of_any b _).mono ?_
    rintro e w5 ⟨rfl, hb5⟩
    have hv5 := hv4.below hb5
    have hB5 := hB4.trans (hb5.mono hB4.size)
    clear hv4 hB4 hb5
    go_wp2_with fail
    refine (dwrite_ok (cap := 1) (L := 1) hv5 rfl 0 1 (ofS b) rfl (by decide) (by decide) (by decide) rfl).mono ?_
    rintro e w6 ⟨rfl, hv6, hf6⟩
    have hB6 := hB5.trans (hf6.below _ hB5.size (fun k hk e => by omega))
    clear hv5 hf6 hB5
    go_wp2_with fail
    refine (crash_any (D := torD a b) hv6 (torD_ok a b) (by decide) rfl 0 tear).mono ?_
    rintro e w7 ⟨rfl, hv7, hf7⟩
    have hB7 := hB6.trans (hf7.below _ hB6.size (fun k hk e => by omega))
    have HR := hide (dread_ok hv7 ((torD_ok a b).crash 0 tear) rfl 0 1 (by decide) (by decide) (by decide) (crash_len _ _ _))
    rw [HRD.out] at HR
    clear hv6 hf7 hB6
    go_wp2_with fail
    refine HR.out.mono ?_
    rintro e w8 ⟨rfl, hb8⟩
    have HBB := hide (hB7.trans (hb8.mono hB7.size))
    clear hb8 hv7 hB7
    go_wp2_with fail
    refine wp_region_c (toA a b 0 p q) (fun j => #[37, 38, 39, 40, 41, 42, 43, 44, 45, 46, 47, 48, 49, 50, 51, 52, 53, 54, 6].getD j 0) (fun _ _ w' => Below w.heap.size w w') (fun qi qv => toV a b 0 p q qi qv) (by kernel_rfl) (by kernel_rfl) rfl HBB.out.drew ?_ ?_ ?_
    · exact fun u => ⟨fun x v => rfl, fun x v => rfl, fun x v => rfl, fun x v => rfl, fun x v => rfl, fun x v => rfl, fun x v => rfl, fun x v => rfl, fun x v => rfl, fun x v => rfl, fun x v => rfl, fun x v => rfl, fun x v => rfl, fun x v => rfl, fun x v => rfl, fun x v => rfl, fun x v => rfl, fun x v => rfl, fun x v => rfl, trivial⟩
    · refine fun u => ⟨?_, ?_, ?_, ?_, ?_, ?_, ?_, ?_, ?_, ?_, ?_, ?_, ?_, ?_, ?_, ?_, ?_, ?_, ?_, trivial⟩
      · intro d x w' hS hdi hv hp hcl K hK
        refine ⟨rfl, ?_⟩
        unfold toA at hK ⊢
        go_wp2
        exact hK (.int .i64 0) w' hS rfl
      · intro d x w' hS hdi hv hp hcl K hK
        have d0 : x 0 = .int .i64 0 := hv 0 (hp 0 (by kernel_rfl))
        refine ⟨rfl, ?_⟩
        unfold toA at hK ⊢
        simp only [d0] at hK ⊢
        go_wp2
        exact hK (.bool true) w' hS rfl
      · intro d x w' hS hdi hv hp hcl K hK
        have d0 : x 1 = .bool true := hv 1 (hp 1 (by kernel_rfl))
        refine ⟨rfl, ?_⟩
        unfold toA at hK ⊢
        simp only [d0] at hK ⊢
        go_wp2
        exact hK (.bool true) w' hS rfl
      · intro d x w' hS hdi hv hp hcl K hK
        have dg : x 2 = .bool true := hv 2 (hp 2 (by kernel_rfl))
        refine ⟨by unfold toA; rw [dg]; rfl, ?_⟩
        unfold toA at hK ⊢
        simp only [dg] at hK ⊢
        go_wp2
        exact hK (.string (p ++ q)) w' hS rfl
      · intro d x w' hS hdi hv hp hcl K hK
        have dg : x 2 = .bool true := hv 2 (hp 2 (by kernel_rfl))
        refine ⟨by unfold toA; rw [dg]; rfl, ?_⟩
        unfold toA at hK ⊢
        simp only [dg] at hK ⊢
        go_wp2
        exact hK (.int .u8 (b.toNat : Int)) w' hS rfl
      · intro d x w' hS hdi hv hp hcl K hK
        have d0 : x 4 = .int .u8 (b.toNat : Int) := hv 4 (hp 4 (by kernel_rfl))
        have dg : x 2 = .bool true := hv 2 (hp 2 (by kernel_rfl))
        refine ⟨by unfold toA; rw [dg]; rfl, ?_⟩
        unfold toA at hK ⊢
        simp only [d0, dg] at hK ⊢
        go_wp2_with fail
        refine (of_any b _).mono ?_
        rintro e w2 ⟨rfl, hb2⟩
        exact hK _ w2 (hS.trans (hb2.mono hS.size)) rfl
      · intro d x w' hS hdi hv hp hcl K hK
        have dg : x 2 = .bool true := hv 2 (hp 2 (by kernel_rfl))
        refine ⟨by unfold toA; rw [dg]; rfl, ?_⟩
        unfold toA at hK ⊢
        simp only [dg] at hK ⊢
        go_wp2
        exact hK (.int .i64 ((0 : Nat) : Int)) w' hS rfl
      · intro d x w' hS hdi hv hp hcl K hK
        have d0 : x 5 = .string (ofS b) := hv 5 (hp 5 (by kernel_rfl))
        have d1 : x 6 = .int .i64 ((0 : Nat) : Int) := hv 6 (hp 6 (by kernel_rfl))
        have dg : x 2 = .bool true := hv 2 (hp 2 (by kernel_rfl))
        refine ⟨by unfold toA; rw [dg]; rfl, ?_⟩
        unfold toA at hK ⊢
        simp only [d0, d1, dg] at hK ⊢
        refine wp_slice_T 9 (.tmp 42) none (some (.tmp 43)) rfl rfl rfl rfl (HS1.out _) ?_
        exact hK _ w' hS rfl
      · intro d x w' hS hdi hv hp hcl K hK
        have dg : x 2 = .bool true := hv 2 (hp 2 (by kernel_rfl))
        refine ⟨by unfold toA; rw [dg]; rfl, ?_⟩
        unfold toA at hK ⊢
        simp only [dg] at hK ⊢
        go_wp2
        exact hK (.int .u8 (a.toNat : Int)) w' hS rfl
      · intro d x w' hS hdi hv hp hcl K hK
        have d0 : x 8 = .int .u8 (a.toNat : Int) := hv 8 (hp 8 (by kernel_rfl))
        have dg : x 2 = .bool true := hv 2 (hp 2 (by kernel_rfl))
        refine ⟨by unfold toA; rw [dg]; rfl, ?_⟩
        unfold toA at hK ⊢
        simp only [d0, dg] at hK ⊢
        go_wp2_with fail
        refine (of_any a _).mono ?_
        rintro e w2 ⟨rfl, hb2⟩
        exact hK _ w2 (hS.trans (hb2.mono hS.size)) rfl
      · intro d x w' hS hdi hv hp hcl K hK
        have dg : x 2 = .bool true := hv 2 (hp 2 (by kernel_rfl))
        refine ⟨by unfold toA; rw [dg]; rfl, ?_⟩
        unfold toA at hK ⊢
        simp only [dg] at hK ⊢
        go_wp2
        exact hK (.int .i64 ((0 : Nat) : Int)) w' hS rfl
      · intro d x w' hS hdi hv hp hcl K hK
        have d0 : x 9 = .string (ofS a) := hv 9 (hp 9 (by kernel_rfl))
        have d1 : x 10 = .int .i64 ((0 : Nat) : Int) := hv 10 (hp 10 (by kernel_rfl))
        have dg : x 2 = .bool true := hv 2 (hp 2 (by kernel_rfl))
        refine ⟨by unfold toA; rw [dg]; rfl, ?_⟩
        unfold toA at hK ⊢
        simp only [d0, d1, dg] at hK ⊢
        refine wp_slice_T 9 (.tmp 46) (some (.tmp 47)) none rfl rfl rfl rfl (HS2.out _) ?_
        exact hK _ w' hS rfl
      · intro d x w' hS hdi hv hp hcl K hK
        have d0 : x 7 = .string p := hv 7 (hp 7 (by kernel_rfl))
        have d1 : x 11 = .string q := hv 11 (hp 11 (by kernel_rfl))
        have dg : x 2 = .bool true := hv 2 (hp 2 (by kernel_rfl))
        refine ⟨by unfold toA; rw [dg]; rfl, ?_⟩
        unfold toA at hK ⊢
        simp only [d0, d1, dg] at hK ⊢
        go_wp2
        exact hK (.string (p ++ q)) w' hS rfl
      · intro d x w' hS hdi hv hp hcl K hK
        have d0 : x 3 = .string (p ++ q) := hv 3 (hp 3 (by kernel_rfl))
        have d1 : x 12 = .string (p ++ q) := hv 12 (hp 12 (by kernel_rfl))
        have dg : x 2 = .bool true := hv 2 (hp 2 (by kernel_rfl))
        refine ⟨by unfold toA; rw [dg]; rfl, ?_⟩
        unfold toA at hK ⊢
        simp only [d0, d1, dg] at hK ⊢
        go_wp2
        exact hK (.bool true) w' hS rfl
      · intro d x w' hS hdi hv hp hcl K hK
        have d0 : x 2 = .bool true := hv 2 (hp 2 (by kernel_rfl))
        have d1 : x 13 = .bool true := hv 13 (hp 13 (by kernel_rfl))
        refine ⟨rfl, ?_⟩
        unfold toA at hK ⊢
        simp only [d0, d1] at hK ⊢
        go_wp2
        exact hK (.bool true) w' hS rfl
      · intro d x w' hS hdi hv hp hcl K hK
        have d0 : x 14 = .bool true := hv 14 (hp 14 (by kernel_rfl))
        refine ⟨rfl, ?_⟩
        unfold toA at hK ⊢
        simp only [d0] at hK ⊢
        go_wp2
        exact hK (.bool true) w' hS rfl
      · intro d x w' hS hdi hv hp hcl K hK
        have dg : x 15 = .bool true := hv 15 (hp 15 (by kernel_rfl))
        refine ⟨by unfold toA; rw [dg]; rfl, ?_⟩
        unfold toA at hK ⊢
        simp only [dg] at hK ⊢
        go_wp2_with fail
        refine (awake09 _).mono ?_
        rintro e w2 ⟨rfl, hb2⟩
        exact hK _ w2 (hS.trans (hb2.mono hS.size)) rfl
      · intro d x w' hS hdi hv hp hcl K hK
        have d0 : x 15 = .bool true := hv 15 (hp 15 (by kernel_rfl))
        have d1 : x 16 = .bool true := hv 16 (hp 16 (by kernel_rfl))
        refine ⟨rfl, ?_⟩
        unfold toA at hK ⊢
        simp only [d0, d1] at hK ⊢
        go_wp2
        exact hK (.bool true) w' hS rfl
      · intro d x w' hS hdi hv hp hcl K hK
        have d0 : x 17 = .bool true := hv 17 (hp 17 (by kernel_rfl))
        refine ⟨rfl, ?_⟩
        unfold toA at hK ⊢
        simp only [d0] at hK ⊢
        go_wp2
        exact hK (.bool true) w' hS rfl
    intro u hu d x w9 hS hd hv
    have e18 : x 18 = _ := hv 18 (by decide)
    have HSB := hide hS
    unfold toA
    simp only [e18]
    clear hS hd hv hu e18
    go_wp2
    go_ret
    exact ⟨rfl, HSB.out⟩
  · have hk0 : k = 0 := by rw [HK.out, if_neg (by omega)]
    subst hk0
    have ht3 : ¬ tear < 64 := by omega
    go_enter Try.func8, Try.ntmps8
    go_wp2_with fail
    refine (dnew_any 1 _).mono ?_
    rintro e w1 ⟨g, c, r, rfl, hv1, hB1, hg, hc, hr⟩
    go_wp2_with fail
    refine (of_any a _).mono ?_
    rintro e w2 ⟨rfl, hb2⟩
    have hv2 := hv1.below hb2
    have hB2 := hB1.trans (hb2.mono hB1.size)
    clear hv1 hB1 hb2
    go_wp2_with fail
    refine (dwrite_ok (cap := 1) (L := 1) hv2 rfl 0 1 (ofS a) rfl (by decide) (by decide) (by decide) rfl).mono ?_
    rintro e w3 ⟨rfl, hv3, hf3⟩
    have hB3 := hB2.trans (hf3.below _ hB2.size (fun k hk e => by omega))
    clear hv2 hf3 hB2
    go_wp2_with fail
    refine (flush_any hv3).mono ?_
    rintro e w4 ⟨rfl, hv4, hf4, -⟩
    have hB4 := hB3.trans (hf4.below _ hB3.size (fun k hk e => by omega))
    clear hv3 hf4 hB3
    go_wp2_with fail
    refine (of_any b _).mono ?_
    rintro e w5 ⟨rfl, hb5⟩
    have hv5 := hv4.below hb5
    have hB5 := hB4.trans (hb5.mono hB4.size)
    clear hv4 hB4 hb5
    go_wp2_with fail
    refine (dwrite_ok (cap := 1) (L := 1) hv5 rfl 0 1 (ofS b) rfl (by decide) (by decide) (by decide) rfl).mono ?_
    rintro e w6 ⟨rfl, hv6, hf6⟩
    have hB6 := hB5.trans (hf6.below _ hB5.size (fun k hk e => by omega))
    clear hv5 hf6 hB5
    go_wp2_with fail
    refine (crash_any (D := torD a b) hv6 (torD_ok a b) (by decide) rfl 0 tear).mono ?_
    rintro e w7 ⟨rfl, hv7, hf7⟩
    have hB7 := hB6.trans (hf7.below _ hB6.size (fun k hk e => by omega))
    have HR := hide (dread_ok hv7 ((torD_ok a b).crash 0 tear) rfl 0 1 (by decide) (by decide) (by decide) (crash_len _ _ _))
    rw [HRD.out] at HR
    clear hv6 hf7 hB6
    go_wp2_with fail
    refine HR.out.mono ?_
    rintro e w8 ⟨rfl, hb8⟩
    have HBB := hide (hB7.trans (hb8.mono hB7.size))
    clear hb8 hv7 hB7
    go_wp2_with fail
    refine wp_region_c (toA a b 0 p q) (fun j => #[37, 38, 39, 40, 41, 42, 43, 44, 45, 46, 47, 48, 49, 50, 51, 52, 53, 54, 6].getD j 0) (fun _ _ w' => Below w.heap.size w w') (fun qi qv => toV a b 0 p q qi qv) (by kernel_rfl) (by kernel_rfl) rfl HBB.out.drew ?_ ?_ ?_
    · exact fun u => ⟨fun x v => rfl, fun x v => rfl, fun x v => rfl, fun x v => rfl, fun x v => rfl, fun x v => rfl, fun x v => rfl, fun x v => rfl, fun x v => rfl, fun x v => rfl, fun x v => rfl, fun x v => rfl, fun x v => rfl, fun x v => rfl, fun x v => rfl, fun x v => rfl, fun x v => rfl, fun x v => rfl, fun x v => rfl, trivial⟩
    · refine fun u => ⟨?_, ?_, ?_, ?_, ?_, ?_, ?_, ?_, ?_, ?_, ?_, ?_, ?_, ?_, ?_, ?_, ?_, ?_, ?_, trivial⟩
      · intro d x w' hS hdi hv hp hcl K hK
        refine ⟨rfl, ?_⟩
        unfold toA at hK ⊢
        go_wp2
        exact hK (.int .i64 0) w' hS rfl
      · intro d x w' hS hdi hv hp hcl K hK
        have d0 : x 0 = .int .i64 0 := hv 0 (hp 0 (by kernel_rfl))
        refine ⟨rfl, ?_⟩
        unfold toA at hK ⊢
        simp only [d0] at hK ⊢
        go_wp2
        exact hK (.bool true) w' hS rfl
      · intro d x w' hS hdi hv hp hcl K hK
        have d0 : x 1 = .bool true := hv 1 (hp 1 (by kernel_rfl))
        refine ⟨rfl, ?_⟩
        unfold toA at hK ⊢
        simp only [d0] at hK ⊢
        go_wp2
        exact hK (.bool true) w' hS rfl
      · intro d x w' hS hdi hv hp hcl K hK
        have dg : x 2 = .bool true := hv 2 (hp 2 (by kernel_rfl))
        refine ⟨by unfold toA; rw [dg]; rfl, ?_⟩
        unfold toA at hK ⊢
        simp only [dg] at hK ⊢
        go_wp2
        exact hK (.string (p ++ q)) w' hS rfl
      · intro d x w' hS hdi hv hp hcl K hK
        have dg : x 2 = .bool true := hv 2 (hp 2 (by kernel_rfl))
        refine ⟨by unfold toA; rw [dg]; rfl, ?_⟩
        unfold toA at hK ⊢
        simp only [dg] at hK ⊢
        go_wp2
        exact hK (.int .u8 (b.toNat : Int)) w' hS rfl
      · intro d x w' hS hdi hv hp hcl K hK
        have d0 : x 4 = .int .u8 (b.toNat : Int) := hv 4 (hp 4 (by kernel_rfl))
        have dg : x 2 = .bool true := hv 2 (hp 2 (by kernel_rfl))
        refine ⟨by unfold toA; rw [dg]; rfl, ?_⟩
        unfold toA at hK ⊢
        simp only [d0, dg] at hK ⊢
        go_wp2_with fail
        refine (of_any b _).mono ?_
        rintro e w2 ⟨rfl, hb2⟩
        exact hK _ w2 (hS.trans (hb2.mono hS.size)) rfl
      · intro d x w' hS hdi hv hp hcl K hK
        have dg : x 2 = .bool true := hv 2 (hp 2 (by kernel_rfl))
        refine ⟨by unfold toA; rw [dg]; rfl, ?_⟩
        unfold toA at hK ⊢
        simp only [dg] at hK ⊢
        go_wp2
        exact hK (.int .i64 ((0 : Nat) : Int)) w' hS rfl
      · intro d x w' hS hdi hv hp hcl K hK
        have d0 : x 5 = .string (ofS b) := hv 5 (hp 5 (by kernel_rfl))
        have d1 : x 6 = .int .i64 ((0 : Nat) : Int) := hv 6 (hp 6 (by kernel_rfl))
        have dg : x 2 = .bool true := hv 2 (hp 2 (by kernel_rfl))
        refine ⟨by unfold toA; rw [dg]; rfl, ?_⟩
        unfold toA at hK ⊢
        simp only [d0, d1, dg] at hK ⊢
        refine wp_slice_T 9 (.tmp 42) none (some (.tmp 43)) rfl rfl rfl rfl (HS1.out _) ?_
        exact hK _ w' hS rfl
      · intro d x w' hS hdi hv hp hcl K hK
        have dg : x 2 = .bool true := hv 2 (hp 2 (by kernel_rfl))
        refine ⟨by unfold toA; rw [dg]; rfl, ?_⟩
        unfold toA at hK ⊢
        simp only [dg] at hK ⊢
        go_wp2
        exact hK (.int .u8 (a.toNat : Int)) w' hS rfl
      · intro d x w' hS hdi hv hp hcl K hK
        have d0 : x 8 = .int .u8 (a.toNat : Int) := hv 8 (hp 8 (by kernel_rfl))
        have dg : x 2 = .bool true := hv 2 (hp 2 (by kernel_rfl))
        refine ⟨by unfold toA; rw [dg]; rfl, ?_⟩
        unfold toA at hK ⊢
        simp only [d0, dg] at hK ⊢
        go_wp2_with fail
        refine (of_any a _).mono ?_
        rintro e w2 ⟨rfl, hb2⟩
        exact hK _ w2 (hS.trans (hb2.mono hS.size)) rfl
      · intro d x w' hS hdi hv hp hcl K hK
        have dg : x 2 = .bool true := hv 2 (hp 2 (by kernel_rfl))
        refine ⟨by unfold toA; rw [dg]; rfl, ?_⟩
        unfold toA at hK ⊢
        simp only [dg] at hK ⊢
        go_wp2
        exact hK (.int .i64 ((0 : Nat) : Int)) w' hS rfl
      · intro d x w' hS hdi hv hp hcl K hK
        have d0 : x 9 = .string (ofS a) := hv 9 (hp 9 (by kernel_rfl))
        have d1 : x 10 = .int .i64 ((0 : Nat) : Int) := hv 10 (hp 10 (by kernel_rfl))
        have dg : x 2 = .bool true := hv 2 (hp 2 (by kernel_rfl))
        refine ⟨by unfold toA; rw [dg]; rfl, ?_⟩
        unfold toA at hK ⊢
        simp only [d0, d1, dg] at hK ⊢
        refine wp_slice_T 9 (.tmp 46) (some (.tmp 47)) none rfl rfl rfl rfl (HS2.out _) ?_
        exact hK _ w' hS rfl
      · intro d x w' hS hdi hv hp hcl K hK
        have d0 : x 7 = .string p := hv 7 (hp 7 (by kernel_rfl))
        have d1 : x 11 = .string q := hv 11 (hp 11 (by kernel_rfl))
        have dg : x 2 = .bool true := hv 2 (hp 2 (by kernel_rfl))
        refine ⟨by unfold toA; rw [dg]; rfl, ?_⟩
        unfold toA at hK ⊢
        simp only [d0, d1, dg] at hK ⊢
        go_wp2
        exact hK (.string (p ++ q)) w' hS rfl
      · intro d x w' hS hdi hv hp hcl K hK
        have d0 : x 3 = .string (p ++ q) := hv 3 (hp 3 (by kernel_rfl))
        have d1 : x 12 = .string (p ++ q) := hv 12 (hp 12 (by kernel_rfl))
        have dg : x 2 = .bool true := hv 2 (hp 2 (by kernel_rfl))
        refine ⟨by unfold toA; rw [dg]; rfl, ?_⟩
        unfold toA at hK ⊢
        simp only [d0, d1, dg] at hK ⊢
        go_wp2
        exact hK (.bool true) w' hS rfl
      · intro d x w' hS hdi hv hp hcl K hK
        have d0 : x 2 = .bool true := hv 2 (hp 2 (by kernel_rfl))
        have d1 : x 13 = .bool true := hv 13 (hp 13 (by kernel_rfl))
        refine ⟨rfl, ?_⟩
        unfold toA at hK ⊢
        simp only [d0, d1] at hK ⊢
        go_wp2
        exact hK (.bool true) w' hS rfl
      · intro d x w' hS hdi hv hp hcl K hK
        have d0 : x 14 = .bool true := hv 14 (hp 14 (by kernel_rfl))
        refine ⟨rfl, ?_⟩
        unfold toA at hK ⊢
        simp only [d0] at hK ⊢
        go_wp2
        exact hK (.bool true) w' hS rfl
      · intro d x w' hS hdi hv hp hcl K hK
        have dg : x 15 = .bool true := hv 15 (hp 15 (by kernel_rfl))
        refine ⟨by unfold toA; rw [dg]; rfl, ?_⟩
        unfold toA at hK ⊢
        simp only [dg] at hK ⊢
        go_wp2_with fail
        refine (awake09 _).mono ?_
        rintro e w2 ⟨rfl, hb2⟩
        exact hK _ w2 (hS.trans (hb2.mono hS.size)) rfl
      · intro d x w' hS hdi hv hp hcl K hK
        have d0 : x 15 = .bool true := hv 15 (hp 15 (by kernel_rfl))
        have d1 : x 16 = .bool true := hv 16 (hp 16 (by kernel_rfl))
        refine ⟨rfl, ?_⟩
        unfold toA at hK ⊢
        simp only [d0, d1] at hK ⊢
        go_wp2
        exact hK (.bool true) w' hS rfl
      · intro d x w' hS hdi hv hp hcl K hK
        have d0 : x 17 = .bool true := hv 17 (hp 17 (by kernel_rfl))
        refine ⟨rfl, ?_⟩
        unfold toA at hK ⊢
        simp only [d0] at hK ⊢
        go_wp2
        exact hK (.bool true) w' hS rfl
    intro u hu d x w9 hS hd hv
    have e18 : x 18 = _ := hv 18 (by decide)
    have HSB := hide hS
    unfold toA
    simp only [e18]
    clear hS hd hv hu e18
    go_wp2
    go_ret
    exact ⟨rfl, HSB.out⟩
  · obtain rfl : tear = (k : Int) := by have := HK.out; rw [if_pos ⟨ht, ht2⟩] at this; omega
    go_enter Try.func8, Try.ntmps8
    go_wp2_with fail
    refine (dnew_any 1 _).mono ?_
    rintro e w1 ⟨g, c, r, rfl, hv1, hB1, hg, hc, hr⟩
    go_wp2_with fail
    refine (of_any a _).mono ?_
    rintro e w2 ⟨rfl, hb2⟩
    have hv2 := hv1.below hb2
    have hB2 := hB1.trans (hb2.mono hB1.size)
    clear hv1 hB1 hb2
    go_wp2_with fail
    refine (dwrite_ok (cap := 1) (L := 1) hv2 rfl 0 1 (ofS a) rfl (by decide) (by decide) (by decide) rfl).mono ?_
    rintro e w3 ⟨rfl, hv3, hf3⟩
    have hB3 := hB2.trans (hf3.below _ hB2.size (fun k hk e => by omega))
    clear hv2 hf3 hB2
    go_wp2_with fail
    refine (flush_any hv3).mono ?_
    rintro e w4 ⟨rfl, hv4, hf4, -⟩
    have hB4 := hB3.trans (hf4.below _ hB3.size (fun k hk e => by omega))
    clear hv3 hf4 hB3
    go_wp2_with fail
    refine (of_any b _).mono ?_
    rintro e w5 ⟨rfl, hb5⟩
    have hv5 := hv4.below hb5
    have hB5 := hB4.trans (hb5.mono hB4.size)
    clear hv4 hB4 hb5
    go_wp2_with fail
    refine (dwrite_ok (cap := 1) (L := 1) hv5 rfl 0 1 (ofS b) rfl (by decide) (by decide) (by decide) rfl).mono ?_
    rintro e w6 ⟨rfl, hv6, hf6⟩
    have hB6 := hB5.trans (hf6.below _ hB5.size (fun k hk e => by omega))
    clear hv5 hf6 hB5
    go_wp2_with fail
    refine (crash_any (D := torD a b) hv6 (torD_ok a b) (by decide) rfl 0 (k : Int)).mono ?_
    rintro e w7 ⟨rfl, hv7, hf7⟩
    have hB7 := hB6.trans (hf7.below _ hB6.size (fun k hk e => by omega))
    have HR := hide (dread_ok hv7 ((torD_ok a b).crash 0 (k : Int)) rfl 0 1 (by decide) (by decide) (by decide) (crash_len _ _ _))
    rw [HRD.out] at HR
    clear hv6 hf7 hB6
    go_wp2_with fail
    refine HR.out.mono ?_
    rintro e w8 ⟨rfl, hb8⟩
    have HBB := hide (hB7.trans (hb8.mono hB7.size))
    clear hb8 hv7 hB7
    go_wp2_with fail
    refine wp_region_c (toA a b k p q) (fun j => #[37, 38, 39, 40, 41, 42, 43, 44, 45, 46, 47, 48, 49, 50, 51, 52, 53, 54, 6].getD j 0) (fun _ _ w' => Below w.heap.size w w') (fun qi qv => toV a b k p q qi qv) (by kernel_rfl) (by kernel_rfl) rfl HBB.out.drew ?_ ?_ ?_
    · exact fun u => ⟨fun x v => rfl, fun x v => rfl, fun x v => rfl, fun x v => rfl, fun x v => rfl, fun x v => rfl, fun x v => rfl, fun x v => rfl, fun x v => rfl, fun x v => rfl, fun x v => rfl, fun x v => rfl, fun x v => rfl, fun x v => rfl, fun x v => rfl, fun x v => rfl, fun x v => rfl, fun x v => rfl, fun x v => rfl, trivial⟩
    · refine fun u => ⟨?_, ?_, ?_, ?_, ?_, ?_, ?_, ?_, ?_, ?_, ?_, ?_, ?_, ?_, ?_, ?_, ?_, ?_, ?_, trivial⟩
      · intro d x w' hS hdi hv hp hcl K hK
        refine ⟨rfl, ?_⟩
        unfold toA at hK ⊢
        go_wp2
        exact hK (.int .i64 0) w' hS rfl
      · intro d x w' hS hdi hv hp hcl K hK
        have d0 : x 0 = .int .i64 0 := hv 0 (hp 0 (by kernel_rfl))
        refine ⟨rfl, ?_⟩
        unfold toA at hK ⊢
        simp only [d0] at hK ⊢
        go_wp2
        exact hK (.bool true) w' hS rfl
      · intro d x w' hS hdi hv hp hcl K hK
        have d0 : x 1 = .bool true := hv 1 (hp 1 (by kernel_rfl))
        refine ⟨rfl, ?_⟩
        unfold toA at hK ⊢
        simp only [d0] at hK ⊢
        go_wp2
        exact hK (.bool true) w' hS rfl
      · intro d x w' hS hdi hv hp hcl K hK
        have dg : x 2 = .bool true := hv 2 (hp 2 (by kernel_rfl))
        refine ⟨by unfold toA; rw [dg]; rfl, ?_⟩
        unfold toA at hK ⊢
        simp only [dg] at hK ⊢
        go_wp2
        exact hK (.string (p ++ q)) w' hS rfl
      · intro d x w' hS hdi hv hp hcl K hK
        have dg : x 2 = .bool true := hv 2 (hp 2 (by kernel_rfl))
        refine ⟨by unfold toA; rw [dg]; rfl, ?_⟩
        unfold toA at hK ⊢
        simp only [dg] at hK ⊢
        go_wp2
        exact hK (.int .u8 (b.toNat : Int)) w' hS rfl
      · intro d x w' hS hdi hv hp hcl K hK
        have d0 : x 4 = .int .u8 (b.toNat : Int) := hv 4 (hp 4 (by kernel_rfl))
        have dg : x 2 = .bool true := hv 2 (hp 2 (by kernel_rfl))
        refine ⟨by unfold toA; rw [dg]; rfl, ?_⟩
        unfold toA at hK ⊢
        simp only [d0, dg] at hK ⊢
        go_wp2_with fail
        refine (of_any b _).mono ?_
        rintro e w2 ⟨rfl, hb2⟩
        exact hK _ w2 (hS.trans (hb2.mono hS.size)) rfl
      · intro d x w' hS hdi hv hp hcl K hK
        have dg : x 2 = .bool true := hv 2 (hp 2 (by kernel_rfl))
        refine ⟨by unfold toA; rw [dg]; rfl, ?_⟩
        unfold toA at hK ⊢
        simp only [dg] at hK ⊢
        go_wp2
        exact hK (.int .i64 (k : Int)) w' hS rfl
      · intro d x w' hS hdi hv hp hcl K hK
        have d0 : x 5 = .string (ofS b) := hv 5 (hp 5 (by kernel_rfl))
        have d1 : x 6 = .int .i64 (k : Int) := hv 6 (hp 6 (by kernel_rfl))
        have dg : x 2 = .bool true := hv 2 (hp 2 (by kernel_rfl))
        refine ⟨by unfold toA; rw [dg]; rfl, ?_⟩
        unfold toA at hK ⊢
        simp only [d0, d1, dg] at hK ⊢
        refine wp_slice_T 9 (.tmp 42) none (some (.tmp 43)) rfl rfl rfl rfl (HS1.out _) ?_
        exact hK _ w' hS rfl
      · intro d x w' hS hdi hv hp hcl K hK
        have dg : x 2 = .bool true := hv 2 (hp 2 (by kernel_rfl))
        refine ⟨by unfold toA; rw [dg]; rfl, ?_⟩
        unfold toA at hK ⊢
        simp only [dg] at hK ⊢
        go_wp2
        exact hK (.int .u8 (a.toNat : Int)) w' hS rfl
      · intro d x w' hS hdi hv hp hcl K hK
        have d0 : x 8 = .int .u8 (a.toNat : Int) := hv 8 (hp 8 (by kernel_rfl))
        have dg : x 2 = .bool true := hv 2 (hp 2 (by kernel_rfl))
        refine ⟨by unfold toA; rw [dg]; rfl, ?_⟩
        unfold toA at hK ⊢
        simp only [d0, dg] at hK ⊢
        go_wp2_with fail
        refine (of_any a _).mono ?_
        rintro e w2 ⟨rfl, hb2⟩
        exact hK _ w2 (hS.trans (hb2.mono hS.size)) rfl
      · intro d x w' hS hdi hv hp hcl K hK
        have dg : x 2 = .bool true := hv 2 (hp 2 (by kernel_rfl))
        refine ⟨by unfold toA; rw [dg]; rfl, ?_⟩
        unfold toA at hK ⊢
        simp only [dg] at hK ⊢
        go_wp2
        exact hK (.int .i64 (k : Int)) w' hS rfl
      · intro d x w' hS hdi hv hp hcl K hK
        have d0 : x 9 = .string (ofS a) := hv 9 (hp 9 (by kernel_rfl))
        have d1 : x 10 = .int .i64 (k : Int) := hv 10 (hp 10 (by kernel_rfl))
        have dg : x 2 = .bool true := hv 2 (hp 2 (by kernel_rfl))
        refine ⟨by unfold toA; rw [dg]; rfl, ?_⟩
        unfold toA at hK ⊢
        simp only [d0, d1, dg] at hK ⊢
        refine wp_slice_T 9 (.tmp 46) (some (.tmp 47)) none rfl rfl rfl rfl (HS2.out _) ?_
        exact hK _ w' hS rfl
      · intro d x w' hS hdi hv hp hcl K hK
        have d0 : x 7 = .string p := hv 7 (hp 7 (by kernel_rfl))
        have d1 : x 11 = .string q := hv 11 (hp 11 (by kernel_rfl))
        have dg : x 2 = .bool true := hv 2 (hp 2 (by kernel_rfl))
        refine ⟨by unfold toA; rw [dg]; rfl, ?_⟩
        unfold toA at hK ⊢
        simp only [d0, d1, dg] at hK ⊢
        go_wp2
        exact hK (.string (p ++ q)) w' hS rfl
      · intro d x w' hS hdi hv hp hcl K hK
        have d0 : x 3 = .string (p ++ q) := hv 3 (hp 3 (by kernel_rfl))
        have d1 : x 12 = .string (p ++ q) := hv 12 (hp 12 (by kernel_rfl))
        have dg : x 2 = .bool true := hv 2 (hp 2 (by kernel_rfl))
        refine ⟨by unfold toA; rw [dg]; rfl, ?_⟩
        unfold toA at hK ⊢
        simp only [d0, d1, dg] at hK ⊢
        go_wp2
        exact hK (.bool true) w' hS rfl
      · intro d x w' hS hdi hv hp hcl K hK
        have d0 : x 2 = .bool true := hv 2 (hp 2 (by kernel_rfl))
        have d1 : x 13 = .bool true := hv 13 (hp 13 (by kernel_rfl))
        refine ⟨rfl, ?_⟩
        unfold toA at hK ⊢
        simp only [d0, d1] at hK ⊢
        go_wp2
        exact hK (.bool true) w' hS rfl
      · intro d x w' hS hdi hv hp hcl K hK
        have d0 : x 14 = .bool true := hv 14 (hp 14 (by kernel_rfl))
        refine ⟨rfl, ?_⟩
        unfold toA at hK ⊢
        simp only [d0] at hK ⊢
        go_wp2
        exact hK (.bool true) w' hS rfl
      · intro d x w' hS hdi hv hp hcl K hK
        have dg : x 15 = .bool true := hv 15 (hp 15 (by kernel_rfl))
        refine ⟨by unfold toA; rw [dg]; rfl, ?_⟩
        unfold toA at hK ⊢
        simp only [dg] at hK ⊢
        go_wp2_with fail
        refine (awake09 _).mono ?_
        rintro e w2 ⟨rfl, hb2⟩
        exact hK _ w2 (hS.trans (hb2.mono hS.size)) rfl
      · intro d x w' hS hdi hv hp hcl K hK
        have d0 : x 15 = .bool true := hv 15 (hp 15 (by kernel_rfl))
        have d1 : x 16 = .bool true := hv 16 (hp 16 (by kernel_rfl))
        refine ⟨rfl, ?_⟩
        unfold toA at hK ⊢
        simp only [d0, d1] at hK ⊢
        go_wp2
        exact hK (.bool true) w' hS rfl
      · intro d x w' hS hdi hv hp hcl K hK
        have d0 : x 17 = .bool true := hv 17 (hp 17 (by kernel_rfl))
        refine ⟨rfl, ?_⟩
        unfold toA at hK ⊢
        simp only [d0] at hK ⊢
        go_wp2
        exact hK (.bool true) w' hS rfl
    intro u hu d x w9 hS hd hv
    have e18 : x 18 = _ := hv 18 (by decide)
    have HSB := hide hS
    unfold toA
    simp only [e18]
    clear hS hd hv hu e18
    go_wp2
    go_ret
    exact ⟨rfl, HSB.out⟩
theorem walk_sectorTorn (x y tear : Int) (w : World) (h0 : (Lit.int .u8 x).wf = true) (h1 : (Lit.int .u8 y).wf = true) (_h2 : (Lit.int .i64 tear).wf = true) :
    Calls Try.prog 8 #[.int .u8 x, .int .u8 y, .int .i64 tear] w fun e w' => e = .returned (.bool true) ∧ Below w.heap.size w w' := by
  have hx : 0 ≤ x ∧ x < 256 := by
    simp [Lit.wf, IntKind.min, IntKind.max, IntKind.signed, IntKind.bits] at h0
    omega
  have hy : 0 ≤ y ∧ y < 256 := by
    simp [Lit.wf, IntKind.min, IntKind.max, IntKind.signed, IntKind.bits] at h1
    omega
  have ex : x = ((UInt8.ofNat x.toNat).toNat : Int) := by rw [UInt8.toNat_ofNat']; omega
  have ey : y = ((UInt8.ofNat y.toNat).toNat : Int) := by rw [UInt8.toNat_ofNat']; omega
  rw [ex, ey]
  exact torn_walk _ _ tear w
end Go.Proofs.Ytpebilhdlblgoaa
