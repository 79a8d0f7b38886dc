/- Chapters 09 and 10, sector: Crash. -/
import Derived.Test.YtpebilhdlblgoaaSd9
namespace Go.Proofs.Ytpebilhdlblgoaa
open Go.RowKit

theorem wpStill_lookup {P : Program} {ops : Array Oper} {w : World} {Q : Act → Prop} {a : Act} {o : Oper} {rest : List Oper} (hgd : o.guard = none) (t : TypeId) (m x : Operand) (ok : Bool) (ho : o.op = .lookup t m x ok) {vm vx u : Value} (hm : a.eval m = vm) (hx : a.eval x = vx)
    (hrun : (Instr.lookup t vm vx ok).run P w = .ok u w) (h : wpStill P ops w Q rest (a.put o.dst u)) : wpStill P ops w Q (o :: rest) a :=
  wpStill_step fun K hK => by
    rw [if_pos (wanted_none' hgd _)]
    unfold Oper.still execOp
    simp only [ho, hm, hx, Sem.run_bind, hrun, Result.andThen_ok, Sem.run_pure]
    exact ⟨rfl, hK _ h⟩
theorem wpStill_addS {P : Program} {ops : Array Oper} {w : World} {Q : Act → Prop} {a : Act} {o : Oper} {rest : List Oper} (hgd : o.guard = none) (x y : Operand) (t t2 : TypeId) (ho : o.op = .binOp .add t x y t2) {u v : ByteArray} (hx : a.eval x = .string u) (hy : a.eval y = .string v)
    (hs : u.size + v.size ≤ 9223372036854775807) (h : wpStill P ops w Q rest (a.put o.dst (.string (u ++ v)))) : wpStill P ops w Q (o :: rest) a :=
  wpStill_step fun K hK => by
    rw [if_pos (wanted_none' hgd _)]
    unfold Oper.still execOp
    have e1 : (eqGuard .add t x y (.string u) (.string v)).run P w = .ok () w := by simp [eqGuard]
    have e2 : (binOp .add t (.string u) (.string v)).run P w = .ok (.string (u ++ v)) w := by rw [binOp_string_add, run_string_add_sum w u v hs]
    simp only [ho, hx, hy, Sem.run_bind, e1, e2, Result.andThen_ok, Sem.run_pure]
    exact ⟨rfl, hK _ h⟩
theorem crash_nil (keep tear : Int) (w : World) : Calls Try.prog 26 #[.pointer none, .int .u64 keep, .int .i64 tear] w fun e w' => e = .returned (.tuple #[]) ∧ w = w' := by
  go_enter Try.func26, Try.ntmps26
  go_wp2
  refine bodyPost_ret (results_none rfl _ _ _) rfl ?_
  exact ⟨rfl, rfl⟩
/-- Is the k-th loose sector kept? -/
def kb (keep : Int) (k : Nat) : Bool := decide (k < 64) && (bits .and .u64 (keep / 2 ^ k) 1 == 1)
def sureD (D : Dev) (i : Nat) : ByteArray := (D.sure (i : Int)).getD ⟨#[]⟩
def tornS (a b : ByteArray) (t : Nat) : ByteArray := a.extract 0 t ++ b.extract t b.size
def crN (D : Dev) (keep tear : Int) : Nat → List ByteArray × Bool
  | 0 => (D.now, decide (tear ≤ 0 ∨ 64 ≤ tear))
  | k + 1 =>
    if kb keep k then crN D keep tear k
    else if (crN D keep tear k).2 then ((crN D keep tear k).1.set ((looseL D).getD k 0).toNat (sureD D ((looseL D).getD k 0).toNat), true)
    else ((crN D keep tear k).1.set ((looseL D).getD k 0).toNat (tornS ((crN D keep tear k).1.getD ((looseL D).getD k 0).toNat ⟨#[]⟩) (sureD D ((looseL D).getD k 0).toNat) tear.toNat), true)
def Dev.crash (D : Dev) (keep tear : Int) : Dev := ⟨(crN D keep tear (looseL D).length).1, fun _ => none, D.lost⟩
theorem crN_kept {D : Dev} {keep tear : Int} {k : Nat} (h : kb keep k = true) : crN D keep tear (k + 1) = crN D keep tear k := by
  show (if kb keep k then _ else _) = _
  rw [if_pos h]
theorem crN_plain {D : Dev} {keep tear : Int} {k m : Nat} {x : ByteArray} (h : kb keep k = false) (h2 : (crN D keep tear k).2 = true) (hm : ((looseL D).getD k 0).toNat = m) (hx : sureD D m = x) : crN D keep tear (k + 1) = ((crN D keep tear k).1.set m x, true) := by
  show (if kb keep k then _ else _) = _
  rw [if_neg (by rw [h]; decide), if_pos h2, hm, hx]
theorem crN_torn {D : Dev} {keep tear : Int} {k m t : Nat} {x a : ByteArray} (h : kb keep k = false) (h2 : (crN D keep tear k).2 = false) (hm : ((looseL D).getD k 0).toNat = m) (hx : sureD D m = x) (ha : (crN D keep tear k).1.getD m ⟨#[]⟩ = a) (ht : tear.toNat = t) : crN D keep tear (k + 1) = ((crN D keep tear k).1.set m (tornS a x t), true) := by
  show (if kb keep k then _ else _) = _
  rw [if_neg (by rw [h]; decide), if_neg (by rw [h2]; decide), hm, hx, ha, ht]
theorem crN_len (D : Dev) (keep tear : Int) : ∀ k, (crN D keep tear k).1.length = D.now.length
  | 0 => rfl
  | k + 1 => by
    unfold crN
    split
    · exact crN_len D keep tear k
    · split
      · rw [List.length_set, crN_len D keep tear k]
      · rw [List.length_set, crN_len D keep tear k]
theorem crN_stay {D : Dev} {keep tear : Int} (h : (crN D keep tear 0).2 = true) : ∀ k, (crN D keep tear k).2 = true
  | 0 => h
  | k + 1 => by
    unfold crN
    split
    · exact crN_stay h k
    · split <;> rfl
theorem loose_at {D : Dev} (hd : Dok D) {k : Nat} (hk : k < (looseL D).length) : ∃ (m : Nat) (x : ByteArray), (looseL D)[k]? = some (m : Int) ∧ ((looseL D).getD k 0).toNat = m ∧ m < D.now.length ∧ D.sure (m : Int) = some x ∧ x.size = 64 ∧ sureD D m = x := by
  have hmem : (looseL D)[k] ∈ looseL D := List.getElem_mem hk
  obtain ⟨x, hx⟩ := Option.isSome_iff_exists.1 ((looseL_mem hd _).1 hmem)
  obtain ⟨h1, h2, h3⟩ := hd.dom _ _ hx
  have e : (((looseL D)[k].toNat : Nat) : Int) = (looseL D)[k] := by omega
  refine ⟨(looseL D)[k].toNat, x, by rw [e]; exact List.getElem?_eq_getElem hk, ?_, by omega, by rw [e]; exact hx, h1, by unfold sureD; rw [e, hx]; rfl⟩
  rw [List.getD_eq_getElem?_getD, List.getElem?_eq_getElem hk]
  rfl
theorem torn_size {a b : ByteArray} {t : Nat} (ha : a.size = 64) (hb : b.size = 64) (ht : t ≤ 64) : (tornS a b t).size = 64 := by
  unfold tornS
  rw [ByteArray.size_append, ByteArray.size_extract, ByteArray.size_extract]
  omega
theorem crN_sz {D : Dev} (hd : Dok D) (keep tear : Int) : ∀ k, k ≤ (looseL D).length → ∀ y ∈ (crN D keep tear k).1, y.size = 64
  | 0, _, y, hy => hd.sz y hy
  | k + 1, hk, y, hy => by
    have ih := crN_sz hd keep tear k (by omega)
    obtain ⟨m, x, h1, h2, h3, h4, h5, h6⟩ := loose_at hd (k := k) (by omega)
    have hml : m < (crN D keep tear k).1.length := by rw [crN_len]; exact h3
    rcases hkb : kb keep k with _ | _
    · rcases htn : (crN D keep tear k).2 with _ | _
      · have h0 : (crN D keep tear 0).2 = false := by
          rcases e : (crN D keep tear 0).2 with _ | _
          · rfl
          · rw [crN_stay e k] at htn
            cases htn
        have ht : tear.toNat ≤ 64 := by
          have : ¬ (tear ≤ 0 ∨ 64 ≤ tear) := of_decide_eq_false h0
          omega
        rw [crN_torn hkb htn h2 h6 rfl rfl] at hy
        rcases List.mem_or_eq_of_mem_set hy with hy | rfl
        · exact ih y hy
        · rw [List.getD_eq_getElem?_getD, List.getElem?_eq_getElem hml, Option.getD_some]
          exact torn_size (ih _ (List.getElem_mem hml)) h5 ht
      · rw [crN_plain hkb htn h2 h6] at hy
        rcases List.mem_or_eq_of_mem_set hy with hy | rfl
        · exact ih y hy
        · exact h5
    · rw [crN_kept hkb] at hy
      exact ih y hy
theorem Dok.crash {D : Dev} (hd : Dok D) (keep tear : Int) : Dok (D.crash keep tear) := ⟨fun y hy => crN_sz hd keep tear _ (Nat.le_refl _) y hy, fun k x h => by cases h⟩
theorem crash_len (D : Dev) (keep tear : Int) : (D.crash keep tear).now.length = D.now.length := crN_len D keep tear _
theorem plain_eq {x : ByteArray} (h : x.size = 64) : (⟨#[]⟩ : ByteArray) ++ x.extract 0 64 = x := by
  rw [extract_str, List.drop_zero, List.take_of_length_le (by rw [← size_list]; omega), str_eta]
  apply ByteArray.ext
  simp
def CrS (w : World) (g c r L cap n : Nat) (D : Dev) (keep tear : Int) (lv : Value) (B : Nat) (wr : World) (tv i : Value) : Prop :=
  ∃ k : Nat, i = .int .i64 (k : Int) ∧ k ≤ n ∧ tv = .bool (crN D keep tear k).2 ∧ DV wr g c (.slice (some ⟨r, 0, none⟩) L cap) ⟨(crN D keep tear k).1, D.sure, D.lost⟩ ∧ kI.row wr B lv (looseL D) ∧ Fr (fun j => j = r) w wr
theorem CrS.step {w wr : World} {g c r L cap n k B : Nat} {D : Dev} {keep tear : Int} {lv : Value} {Z : List ByteArray × Bool} (hk : k < n) (hf : Fr (fun j => j = r) w wr) (hv : DV wr g c (.slice (some ⟨r, 0, none⟩) L cap) ⟨Z.1, D.sure, D.lost⟩) (hr : kI.row wr B lv (looseL D)) (hZ : crN D keep tear (k + 1) = Z) :
    CrS w g c r L cap n D keep tear lv B wr (.bool Z.2) (.int .i64 ((k : Int) + 1)) := by
  subst hZ
  exact ⟨k + 1, by rw [Int.natCast_add]; rfl, hk, rfl, hv, hr, hf⟩
theorem row_far {w : World} {B B' r L cap : Nat} {lv : Value} {l : List Int} {l2 : List ByteArray} (h : kI.row w B lv l) (h2 : kS.row w B' (.slice (some ⟨r, 0, none⟩) L cap) l2) (x : Value) (m : Nat) : kI.row (w.setCell ⟨r, m, none⟩ x) B lv l := by
  refine EK.row_fr h ((Fr.refl (fun j => j = r) w).setCell (p := ⟨r, m, none⟩) (fun _ => rfl) x) (fun k hk e => ?_)
  subst e
  obtain ⟨-, -, c1, e1⟩ := EK.row_typed h hk
  obtain ⟨-, -, c2, e2⟩ := EK.row_typed h2 (k := k) rfl
  rw [e1] at e2
  simp only [Option.some.injEq, Obj.cells.injEq] at e2
  exact absurd e2.2.1 (by decide)
set_option maxHeartbeats 8000000 in
set_option maxRecDepth 100000 in
theorem crash_any {w : World} {g c r L cap : Nat} {D : Dev} (h : DV w g c (.slice (some ⟨r, 0, none⟩) L cap) D) (hd : Dok D) (hL : L ≤ 65536) (hDL : D.now.length = L) (keep tear : Int) :
    Calls Try.prog 26 #[.pointer (some ⟨g, 0, none⟩), .int .u64 keep, .int .i64 tear] w fun e w' => e = .returned (.tuple #[]) ∧ DV w' g c (.slice (some ⟨r, 0, none⟩) L cap) (D.crash keep tear) ∧ Fr (fun j => j = c ∨ j = r) w w' := by
  have HLO := hide (dloose_any h hd (by omega))
  have HV := hide h
  have HD := hide hd
  have HDL := hide hDL
  obtain ⟨tb, htb⟩ : ∃ tb, tb = decide (tear ≤ 0 ∨ 64 ≤ tear) := ⟨_, rfl⟩
  have HTB := hide (show (crN D keep tear 0).2 = tb by rw [htb]; rfl)
  have hL2 := looseL_len D
  clear h hd hDL
  have hcase : (tear ≤ 0 ∧ tb = true) ∨ (0 < tear ∧ 64 ≤ tear ∧ tb = true) ∨ (0 < tear ∧ tear < 64 ∧ tb = false) := by
    rcases (by omega : 0 < tear ∨ tear ≤ 0) with e | e
    · rcases (by omega : tear < 64 ∨ 64 ≤ tear) with e2 | e2
      · exact .inr (.inr ⟨e, e2, by rw [htb]; simp; omega⟩)
      · exact .inr (.inl ⟨e, e2, by rw [htb]; simp; omega⟩)
    · exact .inl ⟨e, by rw [htb]; simp; omega⟩
  clear htb
  rcases hcase with ⟨e1, rfl⟩ | ⟨e1, e2, rfl⟩ | ⟨e1, e2, rfl⟩
  · go_enter Try.func26, Try.ntmps26
    go_wp2_with fail
    refine HLO.out.mono ?_
    rintro e w1 ⟨lv, rfl, hrow, hb1⟩
    obtain ⟨A, lc, hlv⟩ := EK.row_slice hrow
    subst hlv
    have hdl := HDL.out
    obtain ⟨n, hn⟩ : ∃ n, n = (looseL D).length := ⟨_, rfl⟩
    have HS := hide (show CrS w1 g c r L cap n D keep tear (.slice A n lc) w.heap.size w1 (.bool true) (.int .i64 0) from ⟨0, rfl, Nat.zero_le _, by rw [HTB.out], HV.out.below hb1, by rw [hn]; exact hrow, Fr.refl _ _⟩)
    have HB1 := hide hb1
    rw [← hn] at hL2 ⊢
    have HN := hide hn
    clear hrow hb1 hn
    go_wp2_with fail
    go_loopw [6, 22] (fun tv i wr => CrS w1 g c r L cap n D keep tear (.slice A n lc) w.heap.size wr tv i) (fun _ i _ => n - (intOf i).toNat)
    case atStart => exact HS.out
    case round =>
      obtain ⟨k, rfl, hk, rfl, hdv, hrow, hf⟩ := hrel
      have hn65 : n ≤ 65536 := by omega
      rcases Nat.lt_or_ge k n with hkn | hkn
      · obtain ⟨m, x, hm, hgd, hmL, hx, hx64, hsx⟩ := loose_at HD.out (k := k) (by have := HN.out; omega)
        obtain ⟨lr, lcap, eA, hlc1, hlc2, -, -, hcell⟩ := EK.row_cells (K := kI) hrow (k := k) (by have := HN.out; omega)
        injection eA with eA en ec
        subst eA
        subst ec
        have q0 := hcell 0 (by decide)
        have q0' : wr.cell? ⟨lr, k, none⟩ = some (.int .i64 (m : Int)) := by
          simp only [show kI.sz = 1 from rfl, Nat.mul_one, Nat.add_zero] at q0
          rw [q0]
          show some (Value.int .i64 _) = _
          rw [(List.getElem?_eq_some_iff.1 hm).2]
        have hcap1 : n ≤ lc := by have := HN.out; omega
        have hcap2 : lc ≤ 9223372036854775807 := by simp only [maxLen] at hlc2; omega
        have z0 := obj_cell hdv.1 0
        have z1 := obj_cell hdv.1 1
        simp only [List.getElem?_toArray, List.getElem?_cons_zero, List.getElem?_cons_succ] at z0 z1
        have hml : m < (crN D keep tear k).1.length := by rw [crN_len]; exact hmL
        have q2 := kS_cell hdv.2.1 (k := m) hml
        have t2 := EK.row_frozen (K := kS) hdv.2.1 m
        obtain ⟨old, hold⟩ : ∃ old, old = (crN D keep tear k).1[m]'hml := ⟨_, rfl⟩
        rw [← hold] at q2
        have hlk := MK.run_look hdv.2.2 (m : Int)
        rw [hx] at hlk
        have HLK : Hid ((Instr.lookup 66 (.map (some c)) (.int .i64 (m : Int)) false).run Try.prog wr.drew = .ok (.string x) wr.drew) := hide (by
          have := MK.run_look (show kM.mp wr.drew c D.sure from hdv.2.2) (m : Int)
          rw [hx] at this
          exact this)
        have HGD := hide hgd
        have HSX := hide hsx
        have HF := hide hf
        have HROW := hide (show kI.row wr.drew w.heap.size (.slice (some ⟨lr, 0, none⟩) n lc) (looseL D) from hrow)
        have HV2 := hide (show DV wr.drew g c (.slice (some ⟨r, 0, none⟩) L cap) ⟨(crN D keep tear k).1, D.sure, D.lost⟩ from hdv)
        have HV3 := hide hdv
        have HROW3 := hide hrow
        have HML := hide hml
        have hmL' : m < L := by have := HDL.out; omega
        have hmLi : (m : Int) < (L : Int) := by omega
        have hLi : (L : Int) ≤ 65536 := by omega
        have hkni : (k : Int) < (n : Int) := by omega
        have HEN := hide en
        have HX := hide hx
        have hx64i : (x.size : Int) = 64 := by omega
        clear hcell q0 hm hgd hmL hx hsx en hlc1 hlc2 hdv hrow hf hml hlk hold
        rcases (by omega : k < 64 ∨ 64 ≤ k) with h64 | h64
        · have h64i : (k : Int) < 64 := by omega
          rcases hbit : (bits .and .u64 (keep / 2 ^ k) 1 == 1) with _ | _
          · have HKB := hide (show kb keep k = false by unfold kb; rw [hbit, Bool.and_false])
            have HT2 := hide (crN_stay HTB.out k)
            skip
            have HCN := hide (crN_plain (D := D) (tear := tear) HKB.out HT2.out HGD.out HSX.out)
            try rw [HT2.out]
            go_wp2_with fail
            refine wp_stl 17 (by kernel_rfl) (by kernel_rfl) ?_
            simp only [List.take_succ_cons, List.take_zero, List.drop_succ_cons, List.drop_zero]
            repeat (first | still_step | refine wpStill_lookup rfl 66 (.tmp 63) (.tmp 64) false rfl rfl rfl HLK.out ?_)
            refine wpStill_nil ?_
            go_wp2
            rw [plain_eq hx64]
            exact ⟨CrS.step hkn ((HF.out.drew).setCell (p := ⟨r, m, none⟩) (fun _ => rfl) _) (HV2.out.row (k := m) HML.out x) (row_far HROW.out HV2.out.2.1 _ m) HCN.out, by simp only [intOf]; omega⟩
          · have HKB := hide (show kb keep k = true by unfold kb; rw [hbit, Bool.and_true]; exact decide_eq_true h64)
            have HCN := hide (crN_kept (D := D) (tear := tear) HKB.out)
            go_wp2
            exact ⟨CrS.step hkn HF.out HV3.out HROW3.out HCN.out, by simp only [intOf]; omega⟩
        · have h64i : ¬ (k : Int) < 64 := by omega
          have HKB := hide (show kb keep k = false by unfold kb; rw [decide_eq_false (by omega), Bool.false_and])
          have HT2 := hide (crN_stay HTB.out k)
          skip
          have HCN := hide (crN_plain (D := D) (tear := tear) HKB.out HT2.out HGD.out HSX.out)
          try rw [HT2.out]
          go_wp2_with fail
          refine wp_stl 17 (by kernel_rfl) (by kernel_rfl) ?_
          simp only [List.take_succ_cons, List.take_zero, List.drop_succ_cons, List.drop_zero]
          repeat (first | still_step | refine wpStill_lookup rfl 66 (.tmp 63) (.tmp 64) false rfl rfl rfl HLK.out ?_)
          refine wpStill_nil ?_
          go_wp2
          rw [plain_eq hx64]
          exact ⟨CrS.step hkn ((HF.out.drew).setCell (p := ⟨r, m, none⟩) (fun _ => rfl) _) (HV2.out.row (k := m) HML.out x) (row_far HROW.out HV2.out.2.1 _ m) HCN.out, by simp only [intOf]; omega⟩
      · have hke : k = n := by omega
        subst hke
        have HV2 := hide hdv
        have HF := hide hf
        have HNN := hide (show D.crash keep tear = (Dev.mk (crN D keep tear k).1 D.sure D.lost).flush by unfold Dev.crash Dev.flush; rw [← HN.out])
        clear hdv hrow hf
        go_wp2_with fail
        refine (flush_any HV2.out).mono ?_
        rintro e w5 ⟨rfl, hv5, hf5, -⟩
        rw [← HNN.out] at hv5
        have HV5 := hide hv5
        have HF5 := hide (((Fr.of_below (F := fun j => j = c ∨ j = r) HB1.out).trans HF.out (fun _ _ e => .inr e)).trans hf5 (fun _ _ e => .inl e))
        clear hv5 hf5
        go_wp2
        go_end0
        exact ⟨rfl, HV5.out, HF5.out⟩
  · go_enter Try.func26, Try.ntmps26
    go_wp2_with fail
    refine HLO.out.mono ?_
    rintro e w1 ⟨lv, rfl, hrow, hb1⟩
    obtain ⟨A, lc, hlv⟩ := EK.row_slice hrow
    subst hlv
    have hdl := HDL.out
    obtain ⟨n, hn⟩ : ∃ n, n = (looseL D).length := ⟨_, rfl⟩
    have HS := hide (show CrS w1 g c r L cap n D keep tear (.slice A n lc) w.heap.size w1 (.bool true) (.int .i64 0) from ⟨0, rfl, Nat.zero_le _, by rw [HTB.out], HV.out.below hb1, by rw [hn]; exact hrow, Fr.refl _ _⟩)
    have HB1 := hide hb1
    rw [← hn] at hL2 ⊢
    have HN := hide hn
    clear hrow hb1 hn
    go_wp2_with fail
    go_loopw [6, 22] (fun tv i wr => CrS w1 g c r L cap n D keep tear (.slice A n lc) w.heap.size wr tv i) (fun _ i _ => n - (intOf i).toNat)
    case atStart => exact HS.out
    case round =>
      obtain ⟨k, rfl, hk, rfl, hdv, hrow, hf⟩ := hrel
      have hn65 : n ≤ 65536 := by omega
      rcases Nat.lt_or_ge k n with hkn | hkn
      · obtain ⟨m, x, hm, hgd, hmL, hx, hx64, hsx⟩ := loose_at HD.out (k := k) (by have := HN.out; omega)
        obtain ⟨lr, lcap, eA, hlc1, hlc2, -, -, hcell⟩ := EK.row_cells (K := kI) hrow (k := k) (by have := HN.out; omega)
        injection eA with eA en ec
        subst eA
        subst ec
        have q0 := hcell 0 (by decide)
        have q0' : wr.cell? ⟨lr, k, none⟩ = some (.int .i64 (m : Int)) := by
          simp only [show kI.sz = 1 from rfl, Nat.mul_one, Nat.add_zero] at q0
          rw [q0]
          show some (Value.int .i64 _) = _
          rw [(List.getElem?_eq_some_iff.1 hm).2]
        have hcap1 : n ≤ lc := by have := HN.out; omega
        have hcap2 : lc ≤ 9223372036854775807 := by simp only [maxLen] at hlc2; omega
        have z0 := obj_cell hdv.1 0
        have z1 := obj_cell hdv.1 1
        simp only [List.getElem?_toArray, List.getElem?_cons_zero, List.getElem?_cons_succ] at z0 z1
        have hml : m < (crN D keep tear k).1.length := by rw [crN_len]; exact hmL
        have q2 := kS_cell hdv.2.1 (k := m) hml
        have t2 := EK.row_frozen (K := kS) hdv.2.1 m
        obtain ⟨old, hold⟩ : ∃ old, old = (crN D keep tear k).1[m]'hml := ⟨_, rfl⟩
        rw [← hold] at q2
        have hlk := MK.run_look hdv.2.2 (m : Int)
        rw [hx] at hlk
        have HLK : Hid ((Instr.lookup 66 (.map (some c)) (.int .i64 (m : Int)) false).run Try.prog wr.drew = .ok (.string x) wr.drew) := hide (by
          have := MK.run_look (show kM.mp wr.drew c D.sure from hdv.2.2) (m : Int)
          rw [hx] at this
          exact this)
        have HGD := hide hgd
        have HSX := hide hsx
        have HF := hide hf
        have HROW := hide (show kI.row wr.drew w.heap.size (.slice (some ⟨lr, 0, none⟩) n lc) (looseL D) from hrow)
        have HV2 := hide (show DV wr.drew g c (.slice (some ⟨r, 0, none⟩) L cap) ⟨(crN D keep tear k).1, D.sure, D.lost⟩ from hdv)
        have HV3 := hide hdv
        have HROW3 := hide hrow
        have HML := hide hml
        have hmL' : m < L := by have := HDL.out; omega
        have hmLi : (m : Int) < (L : Int) := by omega
        have hLi : (L : Int) ≤ 65536 := by omega
        have hkni : (k : Int) < (n : Int) := by omega
        have HEN := hide en
        have HX := hide hx
        have hx64i : (x.size : Int) = 64 := by omega
        clear hcell q0 hm hgd hmL hx hsx en hlc1 hlc2 hdv hrow hf hml hlk hold
        rcases (by omega : k < 64 ∨ 64 ≤ k) with h64 | h64
        · have h64i : (k : Int) < 64 := by omega
          rcases hbit : (bits .and .u64 (keep / 2 ^ k) 1 == 1) with _ | _
          · have HKB := hide (show kb keep k = false by unfold kb; rw [hbit, Bool.and_false])
            have HT2 := hide (crN_stay HTB.out k)
            skip
            have HCN := hide (crN_plain (D := D) (tear := tear) HKB.out HT2.out HGD.out HSX.out)
            try rw [HT2.out]
            go_wp2_with fail
            refine wp_stl 17 (by kernel_rfl) (by kernel_rfl) ?_
            simp only [List.take_succ_cons, List.take_zero, List.drop_succ_cons, List.drop_zero]
            repeat (first | still_step | refine wpStill_lookup rfl 66 (.tmp 63) (.tmp 64) false rfl rfl rfl HLK.out ?_)
            refine wpStill_nil ?_
            go_wp2
            rw [plain_eq hx64]
            exact ⟨CrS.step hkn ((HF.out.drew).setCell (p := ⟨r, m, none⟩) (fun _ => rfl) _) (HV2.out.row (k := m) HML.out x) (row_far HROW.out HV2.out.2.1 _ m) HCN.out, by simp only [intOf]; omega⟩
          · have HKB := hide (show kb keep k = true by unfold kb; rw [hbit, Bool.and_true]; exact decide_eq_true h64)
            have HCN := hide (crN_kept (D := D) (tear := tear) HKB.out)
            go_wp2
            exact ⟨CrS.step hkn HF.out HV3.out HROW3.out HCN.out, by simp only [intOf]; omega⟩
        · have h64i : ¬ (k : Int) < 64 := by omega
          have HKB := hide (show kb keep k = false by unfold kb; rw [decide_eq_false (by omega), Bool.false_and])
          have HT2 := hide (crN_stay HTB.out k)
          skip
          have HCN := hide (crN_plain (D := D) (tear := tear) HKB.out HT2.out HGD.out HSX.out)
          try rw [HT2.out]
          go_wp2_with fail
          refine wp_stl 17 (by kernel_rfl) (by kernel_rfl) ?_
          simp only [List.take_succ_cons, List.take_zero, List.drop_succ_cons, List.drop_zero]
          repeat (first | still_step | refine wpStill_lookup rfl 66 (.tmp 63) (.tmp 64) false rfl rfl rfl HLK.out ?_)
          refine wpStill_nil ?_
          go_wp2
          rw [plain_eq hx64]
          exact ⟨CrS.step hkn ((HF.out.drew).setCell (p := ⟨r, m, none⟩) (fun _ => rfl) _) (HV2.out.row (k := m) HML.out x) (row_far HROW.out HV2.out.2.1 _ m) HCN.out, by simp only [intOf]; omega⟩
      · have hke : k = n := by omega
        subst hke
        have HV2 := hide hdv
        have HF := hide hf
        have HNN := hide (show D.crash keep tear = (Dev.mk (crN D keep tear k).1 D.sure D.lost).flush by unfold Dev.crash Dev.flush; rw [← HN.out])
        clear hdv hrow hf
        go_wp2_with fail
        refine (flush_any HV2.out).mono ?_
        rintro e w5 ⟨rfl, hv5, hf5, -⟩
        rw [← HNN.out] at hv5
        have HV5 := hide hv5
        have HF5 := hide (((Fr.of_below (F := fun j => j = c ∨ j = r) HB1.out).trans HF.out (fun _ _ e => .inr e)).trans hf5 (fun _ _ e => .inl e))
        clear hv5 hf5
        go_wp2
        go_end0
        exact ⟨rfl, HV5.out, HF5.out⟩
  · have nt1 : ¬ tear ≤ 0 := by omega
    have nt2 : ¬ 64 ≤ tear := by omega
    go_enter Try.func26, Try.ntmps26
    go_wp2_with fail
    refine HLO.out.mono ?_
    rintro e w1 ⟨lv, rfl, hrow, hb1⟩
    obtain ⟨A, lc, hlv⟩ := EK.row_slice hrow
    subst hlv
    have hdl := HDL.out
    obtain ⟨n, hn⟩ : ∃ n, n = (looseL D).length := ⟨_, rfl⟩
    have HS := hide (show CrS w1 g c r L cap n D keep tear (.slice A n lc) w.heap.size w1 (.bool false) (.int .i64 0) from ⟨0, rfl, Nat.zero_le _, by rw [HTB.out], HV.out.below hb1, by rw [hn]; exact hrow, Fr.refl _ _⟩)
    have HB1 := hide hb1
    rw [← hn] at hL2 ⊢
    have HN := hide hn
    clear hrow hb1 hn
    go_wp2_with fail
    go_loopw [6, 22] (fun tv i wr => CrS w1 g c r L cap n D keep tear (.slice A n lc) w.heap.size wr tv i) (fun _ i _ => n - (intOf i).toNat)
    case atStart => exact HS.out
    case round =>
      obtain ⟨k, rfl, hk, rfl, hdv, hrow, hf⟩ := hrel
      have hn65 : n ≤ 65536 := by omega
      rcases Nat.lt_or_ge k n with hkn | hkn
      · obtain ⟨m, x, hm, hgd, hmL, hx, hx64, hsx⟩ := loose_at HD.out (k := k) (by have := HN.out; omega)
        obtain ⟨lr, lcap, eA, hlc1, hlc2, -, -, hcell⟩ := EK.row_cells (K := kI) hrow (k := k) (by have := HN.out; omega)
        injection eA with eA en ec
        subst eA
        subst ec
        have q0 := hcell 0 (by decide)
        have q0' : wr.cell? ⟨lr, k, none⟩ = some (.int .i64 (m : Int)) := by
          simp only [show kI.sz = 1 from rfl, Nat.mul_one, Nat.add_zero] at q0
          rw [q0]
          show some (Value.int .i64 _) = _
          rw [(List.getElem?_eq_some_iff.1 hm).2]
        have hcap1 : n ≤ lc := by have := HN.out; omega
        have hcap2 : lc ≤ 9223372036854775807 := by simp only [maxLen] at hlc2; omega
        have z0 := obj_cell hdv.1 0
        have z1 := obj_cell hdv.1 1
        simp only [List.getElem?_toArray, List.getElem?_cons_zero, List.getElem?_cons_succ] at z0 z1
        have hml : m < (crN D keep tear k).1.length := by rw [crN_len]; exact hmL
        have q2 := kS_cell hdv.2.1 (k := m) hml
        have t2 := EK.row_frozen (K := kS) hdv.2.1 m
        obtain ⟨old, hold⟩ : ∃ old, old = (crN D keep tear k).1[m]'hml := ⟨_, rfl⟩
        rw [← hold] at q2
        have hlk := MK.run_look hdv.2.2 (m : Int)
        rw [hx] at hlk
        have HLK : Hid ((Instr.lookup 66 (.map (some c)) (.int .i64 (m : Int)) false).run Try.prog wr.drew = .ok (.string x) wr.drew) := hide (by
          have := MK.run_look (show kM.mp wr.drew c D.sure from hdv.2.2) (m : Int)
          rw [hx] at this
          exact this)
        have HGD := hide hgd
        have HSX := hide hsx
        have HF := hide hf
        have HROW := hide (show kI.row wr.drew w.heap.size (.slice (some ⟨lr, 0, none⟩) n lc) (looseL D) from hrow)
        have HV2 := hide (show DV wr.drew g c (.slice (some ⟨r, 0, none⟩) L cap) ⟨(crN D keep tear k).1, D.sure, D.lost⟩ from hdv)
        have HV3 := hide hdv
        have HROW3 := hide hrow
        have HML := hide hml
        have hmL' : m < L := by have := HDL.out; omega
        have hmLi : (m : Int) < (L : Int) := by omega
        have hLi : (L : Int) ≤ 65536 := by omega
        have hkni : (k : Int) < (n : Int) := by omega
        have HEN := hide en
        have HX := hide hx
        have hx64i : (x.size : Int) = 64 := by omega
        clear hcell q0 hm hgd hmL hx hsx en hlc1 hlc2 hdv hrow hf hml hlk hold
        rcases (by omega : k < 64 ∨ 64 ≤ k) with h64 | h64
        · have h64i : (k : Int) < 64 := by omega
          rcases hbit : (bits .and .u64 (keep / 2 ^ k) 1 == 1) with _ | _
          · have HKB := hide (show kb keep k = false by unfold kb; rw [hbit, Bool.and_false])
            rcases htn : (crN D keep tear k).2 with _ | _
            · have HT2 := hide htn
              clear htn
              skip
              obtain ⟨t, ht⟩ : ∃ t : Nat, tear = (t : Int) := ⟨tear.toNat, by omega⟩
              subst ht
              have ht64 : t < 64 := by omega
              have hasz := crN_sz HD.out keep (t : Int) k (by have := HN.out; omega)
              obtain ⟨a, ha⟩ : ∃ a, a = (crN D keep (t : Int) k).1[m]'HML.out := ⟨_, rfl⟩
              have ha64 : a.size = 64 := by rw [ha]; exact hasz _ (List.getElem_mem _)
              have HA := hide (show (crN D keep (t : Int) k).1.getD m ⟨#[]⟩ = a by rw [List.getD_eq_getElem?_getD, List.getElem?_eq_getElem HML.out, Option.getD_some, ha])
              have HCN := hide (crN_torn (D := D) (tear := (t : Int)) HKB.out HT2.out HGD.out HSX.out HA.out (Int.toNat_natCast t))
              have q1 := kS_cell HV3.out.2.1 (k := m) HML.out
              rw [← ha] at q1
              try rw [HT2.out]
              obtain ⟨nw, hnw⟩ : ∃ nw, nw = a.extract 0 t := ⟨_, rfl⟩
              have hnsz : nw.size = t := by rw [hnw, ByteArray.size_extract]; omega
              have hnszi : (nw.size : Int) = (t : Int) := by omega
              have HS1 : Hid (∀ W : World, (Instr.sliceAt 9 (.string a) none (some (.int .i64 (t : Int))) none).run Try.prog W = .ok (.string nw) W) := hide (fun W => by
                have u1 : t ≤ a.size := by omega
                simp [Instr.sliceAt, Instr.slice, Instr.sliceBounds, Instr.sliceBound, asIntOf, run_underlying Try.underlying9, u1, hnw])
              obtain ⟨y, hy⟩ : ∃ y, y = x.extract t x.size := ⟨_, rfl⟩
              have HSL : Hid (∀ W : World, (Instr.sliceAt 9 (.string x) (some (.int .i64 (t : Int))) none none).run Try.prog W = .ok (.string y) W) := hide (fun W => by
                have u1 : t ≤ x.size := by omega
                simp [Instr.sliceAt, Instr.slice, Instr.sliceBounds, Instr.sliceBound, asIntOf, run_underlying Try.underlying9, u1, hy])
              have hcat : nw.size + y.size ≤ 9223372036854775807 := by rw [hnsz, hy, ByteArray.size_extract]; omega
              have hcat2 : t + y.size ≤ 9223372036854775807 := by rw [hy, ByteArray.size_extract]; omega
              have HTN := hide (show nw ++ y = tornS a x t by rw [hnw, hy]; rfl)
              clear ha hnw hy hasz q2
              go_wp2_with (refine wpList_sliceS rfl 9 (.tmp 51) none (some (.tmp 52)) rfl rfl rfl rfl (HS1.out _) ?_)
              refine wp_stl 17 (by kernel_rfl) (by kernel_rfl) ?_
              simp only [List.take_succ_cons, List.take_zero, List.drop_succ_cons, List.drop_zero]
              repeat (first | still_step | refine wpStill_lookup rfl 66 (.tmp 63) (.tmp 64) false rfl rfl rfl HLK.out ?_ | refine wpStill_slice rfl 9 (.tmp 65) (some (.tmp 67)) none rfl rfl rfl rfl (HSL.out _) ?_ | refine wpStill_addS rfl (.tmp 59) (.tmp 68) 9 9 rfl rfl rfl hcat ?_)
              refine wpStill_nil ?_
              go_wp2
              rw [HTN.out]
              exact ⟨CrS.step hkn ((HF.out.drew).setCell (p := ⟨r, m, none⟩) (fun _ => rfl) _) (HV2.out.row (k := m) HML.out (tornS a x t)) (row_far HROW.out HV2.out.2.1 _ m) HCN.out, by simp only [intOf]; omega⟩
            · have HT2 := hide htn
              clear htn
              skip
              have HCN := hide (crN_plain (D := D) (tear := tear) HKB.out HT2.out HGD.out HSX.out)
              try rw [HT2.out]
              go_wp2_with fail
              refine wp_stl 17 (by kernel_rfl) (by kernel_rfl) ?_
              simp only [List.take_succ_cons, List.take_zero, List.drop_succ_cons, List.drop_zero]
              repeat (first | still_step | refine wpStill_lookup rfl 66 (.tmp 63) (.tmp 64) false rfl rfl rfl HLK.out ?_)
              refine wpStill_nil ?_
              go_wp2
              rw [plain_eq hx64]
              exact ⟨CrS.step hkn ((HF.out.drew).setCell (p := ⟨r, m, none⟩) (fun _ => rfl) _) (HV2.out.row (k := m) HML.out x) (row_far HROW.out HV2.out.2.1 _ m) HCN.out, by simp only [intOf]; omega⟩
          · have HKB := hide (show kb keep k = true by unfold kb; rw [hbit, Bool.and_true]; exact decide_eq_true h64)
            have HCN := hide (crN_kept (D := D) (tear := tear) HKB.out)
            go_wp2
            exact ⟨CrS.step hkn HF.out HV3.out HROW3.out HCN.out, by simp only [intOf]; omega⟩
        · have h64i : ¬ (k : Int) < 64 := by omega
          have HKB := hide (show kb keep k = false by unfold kb; rw [decide_eq_false (by omega), Bool.false_and])
          rcases htn : (crN D keep tear k).2 with _ | _
          · have HT2 := hide htn
            clear htn
            skip
            obtain ⟨t, ht⟩ : ∃ t : Nat, tear = (t : Int) := ⟨tear.toNat, by omega⟩
            subst ht
            have ht64 : t < 64 := by omega
            have hasz := crN_sz HD.out keep (t : Int) k (by have := HN.out; omega)
            obtain ⟨a, ha⟩ : ∃ a, a = (crN D keep (t : Int) k).1[m]'HML.out := ⟨_, rfl⟩
            have ha64 : a.size = 64 := by rw [ha]; exact hasz _ (List.getElem_mem _)
            have HA := hide (show (crN D keep (t : Int) k).1.getD m ⟨#[]⟩ = a by rw [List.getD_eq_getElem?_getD, List.getElem?_eq_getElem HML.out, Option.getD_some, ha])
            have HCN := hide (crN_torn (D := D) (tear := (t : Int)) HKB.out HT2.out HGD.out HSX.out HA.out (Int.toNat_natCast t))
            have q1 := kS_cell HV3.out.2.1 (k := m) HML.out
            rw [← ha] at q1
            try rw [HT2.out]
            obtain ⟨nw, hnw⟩ : ∃ nw, nw = a.extract 0 t := ⟨_, rfl⟩
            have hnsz : nw.size = t := by rw [hnw, ByteArray.size_extract]; omega
            have hnszi : (nw.size : Int) = (t : Int) := by omega
            have HS1 : Hid (∀ W : World, (Instr.sliceAt 9 (.string a) none (some (.int .i64 (t : Int))) none).run Try.prog W = .ok (.string nw) W) := hide (fun W => by
              have u1 : t ≤ a.size := by omega
              simp [Instr.sliceAt, Instr.slice, Instr.sliceBounds, Instr.sliceBound, asIntOf, run_underlying Try.underlying9, u1, hnw])
            obtain ⟨y, hy⟩ : ∃ y, y = x.extract t x.size := ⟨_, rfl⟩
            have HSL : Hid (∀ W : World, (Instr.sliceAt 9 (.string x) (some (.int .i64 (t : Int))) none none).run Try.prog W = .ok (.string y) W) := hide (fun W => by
              have u1 : t ≤ x.size := by omega
              simp [Instr.sliceAt, Instr.slice, Instr.sliceBounds, Instr.sliceBound, asIntOf, run_underlying Try.underlying9, u1, hy])
            have hcat : nw.size + y.size ≤ 9223372036854775807 := by rw [hnsz, hy, ByteArray.size_extract]; omega
            have hcat2 : t + y.size ≤ 9223372036854775807 := by rw [hy, ByteArray.size_extract]; omega
            have HTN := hide (show nw ++ y = tornS a x t by rw [hnw, hy]; rfl)
            clear ha hnw hy hasz q2
            go_wp2_with (refine wpList_sliceS rfl 9 (.tmp 51) none (some (.tmp 52)) rfl rfl rfl rfl (HS1.out _) ?_)
            refine wp_stl 17 (by kernel_rfl) (by kernel_rfl) ?_
            simp only [List.take_succ_cons, List.take_zero, List.drop_succ_cons, List.drop_zero]
            repeat (first | still_step | refine wpStill_lookup rfl 66 (.tmp 63) (.tmp 64) false rfl rfl rfl HLK.out ?_ | refine wpStill_slice rfl 9 (.tmp 65) (some (.tmp 67)) none rfl rfl rfl rfl (HSL.out _) ?_ | refine wpStill_addS rfl (.tmp 59) (.tmp 68) 9 9 rfl rfl rfl hcat ?_)
            refine wpStill_nil ?_
            go_wp2
            rw [HTN.out]
            exact ⟨CrS.step hkn ((HF.out.drew).setCell (p := ⟨r, m, none⟩) (fun _ => rfl) _) (HV2.out.row (k := m) HML.out (tornS a x t)) (row_far HROW.out HV2.out.2.1 _ m) HCN.out, by simp only [intOf]; omega⟩
          · have HT2 := hide htn
            clear htn
            skip
            have HCN := hide (crN_plain (D := D) (tear := tear) HKB.out HT2.out HGD.out HSX.out)
            try rw [HT2.out]
            go_wp2_with fail
            refine wp_stl 17 (by kernel_rfl) (by kernel_rfl) ?_
            simp only [List.take_succ_cons, List.take_zero, List.drop_succ_cons, List.drop_zero]
            repeat (first | still_step | refine wpStill_lookup rfl 66 (.tmp 63) (.tmp 64) false rfl rfl rfl HLK.out ?_)
            refine wpStill_nil ?_
            go_wp2
            rw [plain_eq hx64]
            exact ⟨CrS.step hkn ((HF.out.drew).setCell (p := ⟨r, m, none⟩) (fun _ => rfl) _) (HV2.out.row (k := m) HML.out x) (row_far HROW.out HV2.out.2.1 _ m) HCN.out, by simp only [intOf]; omega⟩
      · have hke : k = n := by omega
        subst hke
        have HV2 := hide hdv
        have HF := hide hf
        have HNN := hide (show D.crash keep tear = (Dev.mk (crN D keep tear k).1 D.sure D.lost).flush by unfold Dev.crash Dev.flush; rw [← HN.out])
        clear hdv hrow hf
        go_wp2_with fail
        refine (flush_any HV2.out).mono ?_
        rintro e w5 ⟨rfl, hv5, hf5, -⟩
        rw [← HNN.out] at hv5
        have HV5 := hide hv5
        have HF5 := hide (((Fr.of_below (F := fun j => j = c ∨ j = r) HB1.out).trans HF.out (fun _ _ e => .inr e)).trans hf5 (fun _ _ e => .inl e))
        clear hv5 hf5
        go_wp2
        go_end0
        exact ⟨rfl, HV5.out, HF5.out⟩
end Go.Proofs.Ytpebilhdlblgoaa
