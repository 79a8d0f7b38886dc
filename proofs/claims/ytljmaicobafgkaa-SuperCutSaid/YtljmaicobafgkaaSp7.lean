/- Chapter 10, super: what a place has, where the sum is right. -/
import Derived.Test.YtljmaicobafgkaaSp6
import Derived.Test.YtljmaicobafgkaaOrd7
namespace Go.Proofs.Ytljmaicobafgkaa
open Go.RowKit

theorem eq235 (a b c d : Int) (w : World) : (Op.equalIn 10000 235 (.agg #[.int .i64 a, .int .i64 b]) (.agg #[.int .i64 c, .int .i64 d])).run Try.prog w = .ok (a == c && b == d) w := by
  have hS : Try.prog.underlying 235 = some (.struct (Try.prog.fieldsOf 235)) := by kernel_rfl
  have hp : Try.prog.stoodInHeld 235 = false := by kernel_rfl
  rw [show (10000 : Nat) = 9999 + 1 from rfl, run_equalIn_struct w 9999 235 _ _ hS hp]
  simp only [Program.fieldsOf, Try.underlying235]
  go_simp
  by_cases h1 : a = c
  · by_cases h2 : b = d <;> simp [h1, h2]
  · simp [h1]
theorem eql235 (a b c d : Int) (w : World) : (binOp .eql 235 (.agg #[.int .i64 a, .int .i64 b]) (.agg #[.int .i64 c, .int .i64 d])).run Try.prog w = .ok (.bool (a == c && b == d)) w := by
  rw [run_eql_struct, eq235]
  rfl
theorem guard235 (x y : Operand) (u v : Array Value) (w : World) : (eqGuard .eql 235 x y (.agg u) (.agg v)).run Try.prog w = .ok () w := run_eqGuard_agg w .eql 235 x y u v (by kernel_rfl)
theorem wpList_binop' {P : Program} {ops : Array Oper} {rest : List Oper} {o : Oper} {a : Act} {w : World} {Q : Exit → Act → World → Prop} (hgd : o.guard = none) (op : BinOp) (ty : TypeId) (x y : Operand) (t2 : TypeId) (ho : o.op = .binOp op ty x y t2) {vx vy u : Value} (hx : a.eval x = vx) (hy : a.eval y = vy)
    (hgu : (eqGuard op ty x y vx vy).run P w = .ok () w) (hrun : (binOp op ty vx vy).run P w = .ok u w) (h : wpList P ops Q rest (a.put o.dst u) w) : wpList P ops Q (o :: rest) a w :=
  wpList_plain hgd fun _ hK => by
    unfold Oper.wp execOp
    simp only [ho, hx, hy, Sem.run_bind, hgu, hrun, Result.andThen_ok, Sem.run_pure]
    exact hK _ _ h
theorem wpList_slice' {P : Program} {ops : Array Oper} {rest : List Oper} {o : Oper} {a : Act} {w : World} {Q : Exit → Act → World → Prop} (hgd : o.guard = none) (ty : TypeId) (x : Operand) (lo hi : Option Operand) (ho : o.op = .slice ty x lo hi none) {v u : Value} {l' h' : Option Value} (hx : a.eval x = v) (hl : lo.map a.eval = l') (hh : hi.map a.eval = h')
    (hrun : (Instr.sliceAt ty v l' h' none).run P w = .ok u w) (h : wpList P ops Q rest (a.put o.dst u) w) : wpList P ops Q (o :: rest) a w :=
  wpList_plain hgd fun _ hK => by
    unfold Oper.wp execOp
    simp only [ho, hx, hl, hh, Option.map_none, Sem.run_bind, hrun, Result.andThen_ok, Sem.run_pure]
    exact hK _ _ h
/-- What the region that reads both numbers holds. -/
def OpS (w0 : World) (b : Nat) (g n : Int) (d : Nat → Bool) (w : World) : Prop := Fr (fun _ => False) w0 w ∧ (if d 6 = true then w.heap[b]? = some (.cells (if d 7 = true then #[.int .i64 g, .int .i64 n] else #[.int .i64 0, .int .i64 0]) 235 (0, 0)) else w.heap.size = b)
/-- What a text with a right sum tells of a place. -/
def opnT (s T : ByteArray) (at_ : Int) : Option (Nat × ByteArray) :=
  if num4 (T.extract 4 T.size) ≤ 244 ∧ plc (num4 T) = at_ ∧ 1 ≤ num4 T ∧ num4 T < 2147483648 ∧ packS (T.extract 8 (8 + num4 (T.extract 4 T.size))) (num4 T : Int) = s then some (num4 T, T.extract 8 (8 + num4 (T.extract 4 T.size))) else none
theorem num4_lt (s : ByteArray) : num4 s < 4294967296 := by
  unfold num4
  have h1 := (s.data.toList.getD 0 0).toNat_lt
  have h2 := (s.data.toList.getD 1 0).toNat_lt
  have h3 := (s.data.toList.getD 2 0).toNat_lt
  have h4 := (s.data.toList.getD 3 0).toNat_lt
  omega
def opA (b0 : Nat) (s T : ByteArray) (at_ : Int) (u x : Nat → Value) : Act := ⟨#[.string s, .int .i64 at_, u 2, u 3, .pointer (some ⟨b0, 0, none⟩), .string ⟨#[]⟩, .string T, .int .i64 0, x 6, u 9, u 10, u 11, u 12, u 13, u 14, u 15, u 16, u 17, u 18, u 19, x 0, x 1, x 2, x 3, x 4, x 5, u 26, u 27, u 28, u 29, u 30, u 31, u 32, u 33, u 34, u 35, u 36, u 37, u 38, u 39, u 40, u 41, u 42, u 43, u 44, u 45, u 46, u 47, u 48, u 49, u 50, u 51, u 52, u 53, u 54, u 55, u 56, u 57, u 58, u 59, u 60, u 61, u 62, u 63], []⟩
def opV (b g n : Nat) (T : ByteArray) (qx : Nat) (qw : Value) : Prop :=
  match qx with
  | 0 => qw = .string T
  | 1 => qw = .int .i64 (g : Int)
  | 2 => qw = .string T
  | 3 => qw = .string (T.extract 4 T.size)
  | 4 => qw = .int .i64 (n : Int)
  | 5 => qw = .agg #[.int .i64 (g : Int), .int .i64 (n : Int)]
  | 6 => qw = .pointer (some ⟨b, 0, none⟩)
  | _ => True
set_option maxHeartbeats 4000000 in
set_option maxRecDepth 100000 in
theorem sopen_walk (s T : ByteArray) (at_ : Int) (w : World) (hs : s.size = 256) (hT : T.size = 252) (ho : openV s.data.toList = .tuple #[.string T, .int .i64 0]) : Calls Try.prog 156 #[.string s, .int .i64 at_] w fun e w' =>
    e = .returned (.tuple #[.agg #[.int .i64 (genO (opnT s T at_) : Int), .int .i64 ((bodyO (opnT s T at_)).size : Int)], .string (bodyO (opnT s T at_))]) ∧ Below w.heap.size w w' := by
  have hb0 := (Below.refl w.heap.size w).alloc (Nat.le_refl _) (.cells #[.int .i64 0, .int .i64 0] 235)
  have HO := hide (obj_new w (.cells #[.int .i64 0, .int .i64 0] 235))
  have HB := hide hb0
  have HV := hide ho
  have h4 : 4 ≤ T.size := by omega
  have h4i : (4 : Int) ≤ (T.size : Int) := by omega
  have h5 : 4 ≤ (T.extract 4 T.size).size := by rw [ByteArray.size_extract]; omega
  have HS := hide hs
  have HT := hide hT
  obtain ⟨g, hg⟩ : ∃ g, g = num4 T := ⟨_, rfl⟩
  obtain ⟨n, hn⟩ : ∃ n, n = num4 (T.extract 4 T.size) := ⟨_, rfl⟩
  have C1 := hide (show ∀ W : World, Calls Try.prog 181 #[.string T] W fun e w' => e = .returned (.int .i64 (g : Int)) ∧ ∃ m, w' = W.drewN m from fun W => by rw [hg]; exact number4 T W h4)
  have C2 := hide (show ∀ W : World, Calls Try.prog 181 #[.string (T.extract 4 T.size)] W fun e w' => e = .returned (.int .i64 (n : Int)) ∧ ∃ m, w' = W.drewN m from fun W => by rw [hn]; exact number4 _ W h5)
  have hg32 : g < 4294967296 := by rw [hg]; exact num4_lt T
  have hn32 : n < 4294967296 := by rw [hn]; exact num4_lt _
  have HDEF := hide (show opnT s T at_ = if n ≤ 244 ∧ plc g = at_ ∧ 1 ≤ g ∧ g < 2147483648 ∧ packS (T.extract 8 (8 + n)) (g : Int) = s then some (g, T.extract 8 (8 + n)) else none by unfold opnT; rw [← hg, ← hn])
  clear hg hn h5
  clear hb0 ho hs hT
  go_enter Try.func156, Try.ntmps156
  go_wp2_with fail
  refine (open_long s _ (by have := HS.out; omega) (by have := HS.out; omega)).mono ?_
  rintro e w1 ⟨rfl, hb1⟩
  rw [HV.out]
  have HB1 := hide (HB.out.trans (hb1.mono (by simp)))
  have HO1 := hide (obj_below HO.out hb1)
  clear hb1
  obtain ⟨b, hbb⟩ : ∃ b, b = w1.heap.size := ⟨_, rfl⟩
  go_wp2_with fail
  refine wp_region_c (opA w.heap.size s T at_) (fun j => #[20, 21, 22, 23, 24, 25, 8, 0].getD j 0) (fun d _ w' => OpS w1 b g n d w') (fun qi qv => opV b g n T qi qv) (by kernel_rfl) (by kernel_rfl) rfl ⟨(Fr.refl _ _).drew, hbb.symm⟩ ?_ ?_ ?_
  · exact fun u => ⟨fun x v => rfl, fun x v => rfl, fun x v => rfl, fun x v => rfl, fun x v => rfl, fun x v => rfl, fun x v => rfl, fun x v => rfl, trivial⟩
  · refine fun u => ⟨?_, ?_, ?_, ?_, ?_, ?_, ?_, ?_, trivial⟩
    · intro d x w' hS hdi hv hp hcl K hK
      refine ⟨rfl, ?_⟩
      unfold opA at hK ⊢
      go_wp2
      exact hK (.string T) w' hS rfl
    · intro d x w' hS hdi hv hp hcl K hK
      have d0 : x 0 = .string T := hv 0 (hp 0 (by kernel_rfl))
      refine ⟨rfl, ?_⟩
      unfold opA at hK ⊢
      simp only [d0] at hK ⊢
      go_wp2_with fail
      refine (C1.out _).mono ?_
      rintro e w2 ⟨rfl, m, rfl⟩
      refine hK _ _ ⟨hS.1.drewN m, hS.2⟩ rfl
    · intro d x w' hS hdi hv hp hcl K hK
      refine ⟨rfl, ?_⟩
      unfold opA at hK ⊢
      go_wp2
      exact hK (.string T) w' hS rfl
    · intro d x w' hS hdi hv hp hcl K hK
      have d0 : x 2 = .string T := hv 2 (hp 2 (by kernel_rfl))
      refine ⟨rfl, ?_⟩
      unfold opA at hK ⊢
      simp only [d0] at hK ⊢
      go_wp2
      exact hK _ w' hS rfl
    · intro d x w' hS hdi hv hp hcl K hK
      have d0 : x 3 = .string (T.extract 4 T.size) := hv 3 (hp 3 (by kernel_rfl))
      refine ⟨rfl, ?_⟩
      unfold opA at hK ⊢
      simp only [d0] at hK ⊢
      go_wp2_with fail
      refine (C2.out _).mono ?_
      rintro e w2 ⟨rfl, m, rfl⟩
      refine hK _ _ ⟨hS.1.drewN m, hS.2⟩ rfl
    · intro d x w' hS hdi hv hp hcl K hK
      have d0 : x 1 = .int .i64 (g : Int) := hv 1 (hp 1 (by kernel_rfl))
      have d1 : x 4 = .int .i64 (n : Int) := hv 4 (hp 4 (by kernel_rfl))
      refine ⟨rfl, ?_⟩
      unfold opA at hK ⊢
      simp only [d0, d1] at hK ⊢
      go_wp2
      exact hK (.agg #[.int .i64 (g : Int), .int .i64 (n : Int)]) w' hS rfl
    · intro d x w' hS hdi hv hp hcl K hK
      have n6 : ¬ d 6 = true := by rw [hdi]; decide
      have n7 : ¬ d 7 = true := fun e => by have := hcl 7 6 e (by kernel_rfl); rw [hdi] at this; cases this
      have hsz := hS.2
      rw [if_neg n6] at hsz
      refine ⟨rfl, ?_⟩
      unfold opA at hK ⊢
      go_wp2
      refine hK _ _ ⟨hS.1.alloc _, ?_⟩ (by show Value.pointer (some ⟨w1.heap.size, 0, none⟩) = _; rw [hbb])
      rw [if_pos (by simp), if_neg (by simpa using n7)]
      rw [← hsz]
      exact obj_new _ _
    · intro d x w' hS hdi hv hp hcl K hK
      have d0 : x 6 = .pointer (some ⟨b, 0, none⟩) := hv 6 (hp 6 (by kernel_rfl))
      have d1 : x 5 = .agg #[.int .i64 (g : Int), .int .i64 (n : Int)] := hv 5 (hp 5 (by kernel_rfl))
      have y6 : d 6 = true := hp 6 (by kernel_rfl)
      have n7 : ¬ d 7 = true := by rw [hdi]; decide
      have hO := hS.2
      rw [if_pos y6, if_neg n7] at hO
      refine ⟨rfl, ?_⟩
      unfold opA at hK ⊢
      simp only [d0, d1] at hK ⊢
      refine wp_storev' 235 (.tmp 8) (.tmp 25) rfl rfl rfl (store_whole hO info235 rfl (by simp [Value.oneCell'])) ?_
      refine hK undef _ ⟨?_, ?_⟩ trivial
      · exact hS.1.trans (setRow_fr' w' b _) (fun i hi e => by omega)
      · rw [if_pos (by simpa using y6), if_pos (by simp)]
        exact setRow_at' hO
  intro u hu d x w2 hS hd hv
  have hO2 := hS.2
  rw [if_pos (hd 6 (by decide)), if_pos (hd 7 (by decide))] at hO2
  have hlt := obj_lt HO1.out
  have hO0 := hS.1.obj HO1.out (fun e => e)
  have HB2 := hide (HB1.out.trans (hS.1.below _ HB1.out.size (fun _ _ e => e)))
  have e0 : x 0 = _ := hv 0 (by decide)
  have e1 : x 1 = _ := hv 1 (by decide)
  have e2 : x 2 = _ := hv 2 (by decide)
  have e3 : x 3 = _ := hv 3 (by decide)
  have e4 : x 4 = _ := hv 4 (by decide)
  have e5 : x 5 = _ := hv 5 (by decide)
  have e6 : x 6 = _ := hv 6 (by decide)
  have hz := HB2.out.size
  have z0 := obj_cell hO2 0
  have z1 := obj_cell hO2 1
  simp only [List.getElem?_toArray, List.getElem?_cons_zero, List.getElem?_cons_succ] at z0 z1
  have HO2 := hide hO0
  have HO3 := hide hO2
  unfold opA
  simp only [e0, e1, e2, e3, e4, e5, e6]
  clear hS hd hv hu hO0 hO2 e0 e1 e2 e3 e4 e5 e6 hbb
  have hsl : ∀ W : World, n ≤ 244 → (Instr.sliceAt 9 (.string T) (some (.int .i64 8)) (some (.int .i64 (8 + (n : Int)))) none).run Try.prog W = .ok (.string (T.extract 8 (8 + n))) W := fun W hn => by
    have hT := HT.out
    have u5 : (8 : Int) + (n : Int) ≤ (T.size : Int) := by omega
    have u6 : (0 : Int) ≤ 8 + (n : Int) := by omega
    have u7 : (8 + (n : Int)).toNat = 8 + n := by omega
    simp [Instr.sliceAt, Instr.slice, Instr.sliceBounds, Instr.sliceBound, asIntOf, run_underlying Try.underlying9, u5, u6, u7]
    omega
  have HSL := hide hsl
  clear hsl
  by_cases h1 : g = 0 ∧ n = 0
  · obtain ⟨h1, h2⟩ := h1
    have HR := hide (show opnT s T at_ = none by rw [HDEF.out, if_neg (by omega)])
    have HQ : Hid ((((g : Int) == 0) && ((n : Int) == 0)) = true) := hide (by rw [h1, h2]; rfl)
    clear h1 h2
    have HST := hide (store_whole (P := Try.prog) (ty := 235) HO2.out (cells := #[.int .i64 0, .int .i64 0]) info235 rfl (by simp [Value.oneCell']))
    have HO4 := hide (setRow_at' (C' := #[.int .i64 0, .int .i64 0]) HO2.out)
    have HB4 := hide (HB2.out.trans ((setRow_fr' w2 w.heap.size #[.int .i64 0, .int .i64 0]).below _ HB2.out.size (fun j hj e => by omega)))
    go_wp2_with (first | (refine wpList_binop' rfl .eql 235 (.tmp 26) (.tmp 27) 235 rfl rfl rfl (guard235 _ _ _ _ _) (eql235 _ _ _ _ _) ?_; simp only [HQ.out]) | refine wpList_storev' rfl 235 (.tmp 4) (.tmp 41) rfl rfl rfl HST.out ?_)
    refine bodyPost_ret (res_ct rfl _ _ w.heap.size 235 _ (0, 0) _ rfl HO4.out Try.underlying235 rfl info235) rfl ?_
    rw [HR.out]
    exact ⟨rfl, HB4.out⟩
  by_cases h2 : 244 < n
  · have h2i : (244 : Int) < (n : Int) := by omega
    have HR := hide (show opnT s T at_ = none by rw [HDEF.out, if_neg (by omega)])
    have HQ : Hid ((((g : Int) == 0) && ((n : Int) == 0)) = false) := hide (by
      have : ((n : Int) == 0) = false := by simp; omega
      rw [this, Bool.and_false])
    clear h1 h2
    have HST := hide (store_whole (P := Try.prog) (ty := 235) HO2.out (cells := #[.int .i64 0, .int .i64 0]) info235 rfl (by simp [Value.oneCell']))
    have HO4 := hide (setRow_at' (C' := #[.int .i64 0, .int .i64 0]) HO2.out)
    have HB4 := hide (HB2.out.trans ((setRow_fr' w2 w.heap.size #[.int .i64 0, .int .i64 0]).below _ HB2.out.size (fun j hj e => by omega)))
    go_wp2_with (first | (refine wpList_binop' rfl .eql 235 (.tmp 26) (.tmp 27) 235 rfl rfl rfl (guard235 _ _ _ _ _) (eql235 _ _ _ _ _) ?_; simp only [HQ.out]) | refine wpList_storev' rfl 235 (.tmp 4) (.tmp 41) rfl rfl rfl HST.out ?_)
    refine bodyPost_ret (res_ct rfl _ _ w.heap.size 235 _ (0, 0) _ rfl HO4.out Try.underlying235 rfl info235) rfl ?_
    rw [HR.out]
    exact ⟨rfl, HB4.out⟩
  have HQ : Hid ((((g : Int) == 0) && ((n : Int) == 0)) = false) := hide (by
    by_cases e : g = 0
    · have : ((n : Int) == 0) = false := by simp; omega
      rw [this, Bool.and_false]
    · have : ((g : Int) == 0) = false := by simp; omega
      rw [this, Bool.false_and])
  have h2i : ¬ (244 : Int) < (n : Int) := by omega
  have hn244 : n ≤ 244 := by omega
  have hn8 : (n : Int) ≤ 244 := by omega
  clear h1 h2
  by_cases h3 : plc g = at_
  · have HPL := hide h3
    have hq3 : (at_ != at_) = false := by simp
    go_wp2_with (first | (refine wpList_binop' rfl .eql 235 (.tmp 26) (.tmp 27) 235 rfl rfl rfl (guard235 _ _ _ _ _) (eql235 _ _ _ _ _) ?_; simp only [HQ.out]) | (refine wpList_slice' rfl 9 (.tmp 42) (some (.const (.int .i64 8))) (some (.tmp 45)) rfl rfl rfl rfl (HSL.out _ hn244) ?_))
    refine (place153 g _ hg32).mono ?_
    rintro e w3 ⟨rfl, rfl⟩
    rw [HPL.out]
    go_wp2_with (first | (refine wpList_binop' rfl .eql 235 (.tmp 26) (.tmp 27) 235 rfl rfl rfl (guard235 _ _ _ _ _) (eql235 _ _ _ _ _) ?_; simp only [HQ.out]) | (refine wpList_slice' rfl 9 (.tmp 42) (some (.const (.int .i64 8))) (some (.tmp 45)) rfl rfl rfl rfl (HSL.out _ hn244) ?_))
    have hbs : (T.extract 8 (8 + n)).size = n := by have := HT.out; rw [ByteArray.size_extract]; omega
    obtain ⟨B, hB⟩ : ∃ B, B = T.extract 8 (8 + n) := ⟨_, rfl⟩
    rw [← hB] at HDEF hbs ⊢
    clear hB
    by_cases h4' : 1 ≤ g ∧ g < 2147483648
    · refine (pack_ok B (g : Int) _ (by omega) (by omega) (by omega)).mono ?_
      rintro e w3 ⟨rfl, hb3⟩
      have HB3 := hide (HB2.out.trans (hb3.mono HB2.out.size))
      have ho3 := obj_below HO3.out hb3
      have ho0 := obj_below HO2.out hb3
      have z0 := obj_cell ho3 0
      have z1 := obj_cell ho3 1
      simp only [List.getElem?_toArray, List.getElem?_cons_zero, List.getElem?_cons_succ] at z0 z1
      have HO5 := hide ho0
      clear hb3 ho3 ho0
      obtain ⟨p, hp⟩ : ∃ p, p = packS B (g : Int) := ⟨_, rfl⟩
      rw [← hp] at HDEF ⊢
      clear hp
      by_cases h5' : p = s
      · have HR := hide (show opnT s T at_ = some (g, B) by rw [HDEF.out, if_pos ⟨hn244, HPL.out, h4'.1, h4'.2, h5'⟩])
        subst h5'
        have HSTG := hide (store_whole (P := Try.prog) (ty := 235) HO5.out (cells := #[.int .i64 (g : Int), .int .i64 (n : Int)]) info235 rfl (by simp [Value.oneCell']))
        have HO4 := hide (setRow_at' (C' := #[.int .i64 (g : Int), .int .i64 (n : Int)]) HO5.out)
        have HB4 := hide (HB3.out.trans ((setRow_fr' w3 w.heap.size #[.int .i64 (g : Int), .int .i64 (n : Int)]).below _ HB3.out.size (fun j hj e => by omega)))
        go_wp2_with (refine wpList_storev' rfl 235 (.tmp 4) (.tmp 62) rfl rfl rfl HSTG.out ?_)
        refine bodyPost_ret (res_ct rfl _ _ w.heap.size 235 _ (0, 0) _ rfl HO4.out Try.underlying235 rfl info235) rfl ?_
        rw [HR.out]
        refine ⟨?_, HB4.out⟩
        show _ = Ending.returned (.tuple #[.agg #[.int .i64 (g : Int), .int .i64 (B.size : Int)], .string B])
        rw [hbs]
        rfl
      · have HR := hide (show opnT s T at_ = none by rw [HDEF.out, if_neg (fun h => h5' h.2.2.2.2)])
        have hq5 : (p.toList == s.toList) = false := by
          rw [beq_eq_false_iff_ne]
          intro e
          apply h5'
          rw [ByteArray.toList_eq, ByteArray.toList_eq] at e
          obtain ⟨⟨x⟩⟩ := p
          obtain ⟨⟨y⟩⟩ := s
          simp only at e
          rw [e]
        clear h5'
        have HST := hide (store_whole (P := Try.prog) (ty := 235) HO5.out (cells := #[.int .i64 0, .int .i64 0]) info235 rfl (by simp [Value.oneCell']))
        have HO4 := hide (setRow_at' (C' := #[.int .i64 0, .int .i64 0]) HO5.out)
        have HB4 := hide (HB3.out.trans ((setRow_fr' w3 w.heap.size #[.int .i64 0, .int .i64 0]).below _ HB3.out.size (fun j hj e => by omega)))
        go_wp2_with (first | (refine wpList_binop' rfl .eql 235 (.tmp 26) (.tmp 27) 235 rfl rfl rfl (guard235 _ _ _ _ _) (eql235 _ _ _ _ _) ?_; simp only [HQ.out]) | refine wpList_storev' rfl 235 (.tmp 4) (.tmp 61) rfl rfl rfl HST.out ?_)
        refine bodyPost_ret (res_ct rfl _ _ w.heap.size 235 _ (0, 0) _ rfl HO4.out Try.underlying235 rfl info235) rfl ?_
        rw [HR.out]
        exact ⟨rfl, HB4.out⟩
    · refine (pack_arg B (g : Int) _ (by omega)).mono ?_
      rintro e w3 ⟨rfl, rfl⟩
      have HR := hide (show opnT s T at_ = none by rw [HDEF.out, if_neg (fun h => h4' ⟨h.2.2.1, h.2.2.2.1⟩)])
      have HST := hide (store_whole (P := Try.prog) (ty := 235) HO2.out (cells := #[.int .i64 0, .int .i64 0]) info235 rfl (by simp [Value.oneCell']))
      have HO4 := hide (setRow_at' (C' := #[.int .i64 0, .int .i64 0]) HO2.out)
      have HB4 := hide (HB2.out.trans ((setRow_fr' w2 w.heap.size #[.int .i64 0, .int .i64 0]).below _ HB2.out.size (fun j hj e => by omega)))
      go_wp2_with (first | (refine wpList_binop' rfl .eql 235 (.tmp 26) (.tmp 27) 235 rfl rfl rfl (guard235 _ _ _ _ _) (eql235 _ _ _ _ _) ?_; simp only [HQ.out]) | refine wpList_storev' rfl 235 (.tmp 4) (.tmp 61) rfl rfl rfl HST.out ?_)
      refine bodyPost_ret (res_ct rfl _ _ w.heap.size 235 _ (0, 0) _ rfl HO4.out Try.underlying235 rfl info235) rfl ?_
      rw [HR.out]
      exact ⟨rfl, HB4.out⟩
  · have HR := hide (show opnT s T at_ = none by rw [HDEF.out, if_neg (fun h => h3 h.2.1)])
    have hq3 : (plc g != at_) = true := by simp [h3]
    go_wp2_with (first | (refine wpList_binop' rfl .eql 235 (.tmp 26) (.tmp 27) 235 rfl rfl rfl (guard235 _ _ _ _ _) (eql235 _ _ _ _ _) ?_; simp only [HQ.out]) | (refine wpList_slice' rfl 9 (.tmp 42) (some (.const (.int .i64 8))) (some (.tmp 45)) rfl rfl rfl rfl (HSL.out _ hn244) ?_))
    refine (place153 g _ hg32).mono ?_
    rintro e w3 ⟨rfl, rfl⟩
    have HST := hide (store_whole (P := Try.prog) (ty := 235) HO2.out (cells := #[.int .i64 0, .int .i64 0]) info235 rfl (by simp [Value.oneCell']))
    have HO4 := hide (setRow_at' (C' := #[.int .i64 0, .int .i64 0]) HO2.out)
    have HB4 := hide (HB2.out.trans ((setRow_fr' w2 w.heap.size #[.int .i64 0, .int .i64 0]).below _ HB2.out.size (fun j hj e => by omega)))
    go_wp2_with (first | (refine wpList_binop' rfl .eql 235 (.tmp 26) (.tmp 27) 235 rfl rfl rfl (guard235 _ _ _ _ _) (eql235 _ _ _ _ _) ?_; simp only [HQ.out]) | refine wpList_storev' rfl 235 (.tmp 4) (.tmp 41) rfl rfl rfl HST.out ?_)
    refine bodyPost_ret (res_ct rfl _ _ w.heap.size 235 _ (0, 0) _ rfl HO4.out Try.underlying235 rfl info235) rfl ?_
    rw [HR.out]
    exact ⟨rfl, HB4.out⟩
end Go.Proofs.Ytljmaicobafgkaa
