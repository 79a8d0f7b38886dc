/- Chapters 09 and 10, sector: Write. -/
import Derived.Test.YtpebilhdlblgoaaSd5
namespace Go.Proofs.Ytpebilhdlblgoaa
open Go.RowKit

theorem wpList_mapup {P : Program} {ops : Array Oper} {rest : List Oper} {o : Oper} {a : Act} {w w' : World} {Q : Exit → Act → World → Prop} (hgd : o.guard = none) (t : TypeId) (m k v : Operand)
    (ho : o.op = .mapUpdate t m k v) {vm vk vv : Value} (hm : a.eval m = vm) (hk : a.eval k = vk) (hv : a.eval v = vv)
    (hrun : (Instr.mapUpdate t vm vk vv).run P w = .ok () w') (h : wpList P ops Q rest (a.put o.dst undef) w') : wpList P ops Q (o :: rest) a w :=
  wpList_plain hgd fun _ hK => by
    unfold Oper.wp execOp
    simp only [ho, hm, hk, hv, Sem.run_bind, hrun, Result.andThen_ok, Sem.run_pure]
    exact hK _ _ h
set_option maxHeartbeats 2000000 in
set_option maxRecDepth 100000 in
/-- Write is refused. -/
theorem dwrite_no {w : World} {g n c : Nat} {A : Option Addr} {m : Value} {lost : Bool} (h : w.heap[g]? = some (.cells #[.slice A n c, m, .bool lost] 69 (0, 0))) (hn : n ≤ 9223372036854775807) (a : Int) (ha : a ≤ 9223372036854775807) (s : ByteArray) (q r : Nat) (hs : s.size = q * 64 + r) (hr : r < 64) (hs2 : s.size ≤ 1073741824) (ok : Bool) (hok : ok = decide (r = 0)) (he : chkE n a q ok lost ≠ 0) :
    Calls Try.prog 21 #[.pointer (some ⟨g, 0, none⟩), .int .i64 a, .string s] w fun e w' => e = .returned (.int .i64 (chkE n a q ok lost)) ∧ w = w' := by
  have HC := hide (dcheck_any h hn a (q : Int) ha (by omega) ok)
  clear h
  generalize chkE n a q ok lost = ec at HC he ⊢
  have he' : (ec != 0) = true := by simp [he]
  have hq : (s.size : Int).tdiv 64 = (q : Int) := by rw [Int.tdiv_eq_ediv_of_nonneg (by omega)]; omega
  have hq2 : (s.size : Int) / 64 = (q : Int) := by omega
  rcases ok with _ | _
  · have hr0 : r ≠ 0 := by simpa using hok
    have hr1 : (s.size : Int).tmod 64 = (r : Int) := by rw [Int.tmod_eq_emod_of_nonneg (by omega)]; omega
    have hr2 : (s.size : Int) % 64 = (r : Int) := by omega
    have hr3 : ((r : Int) == 0) = false := by simp [hr0]
    clear hs hok
    go_enter Try.func21, Try.ntmps21
    go_wp2_with fail
    refine HC.out.mono ?_
    rintro e w1 ⟨rfl, rfl⟩
    go_wp2
    go_ret
    exact ⟨rfl, rfl⟩
  · have hr0 : r = 0 := by simpa using hok
    subst hr0
    have hr1 : (s.size : Int).tmod 64 = 0 := by rw [Int.tmod_eq_emod_of_nonneg (by omega)]; omega
    have hr2 : (s.size : Int) % 64 = 0 := by omega
    clear hs hok
    go_enter Try.func21, Try.ntmps21
    go_wp2_with fail
    refine HC.out.mono ?_
    rintro e w1 ⟨rfl, rfl⟩
    go_wp2
    go_ret
    exact ⟨rfl, rfl⟩
set_option maxRecDepth 100000 in
theorem dwrite_nil (a : Int) (s : ByteArray) (w : World) (hs2 : s.size ≤ 1073741824) : Calls Try.prog 21 #[.pointer none, .int .i64 a, .string s] w fun e w' => e = .returned (.int .i64 1) ∧ w = w' := by
  go_enter Try.func21, Try.ntmps21
  go_wp2_with fail
  refine (dcheck_nil _ _ _ _).mono ?_
  rintro e w1 ⟨rfl, rfl⟩
  go_wp2
  go_ret
  exact ⟨rfl, rfl⟩
theorem kS_cell {w : World} {r L cap : Nat} {l : List ByteArray} (h : kS.row w 0 (.slice (some ⟨r, 0, none⟩) L cap) l) {k : Nat} (hk : k < l.length) : w.cell? ⟨r, k, none⟩ = some (.string l[k]) := by
  obtain ⟨r', cap', e, -, -, -, -, hcell⟩ := EK.row_cells (K := kS) h hk
  cases e
  have q0 := hcell 0 (by decide)
  simp only [show kS.sz = 1 from rfl, Nat.mul_one, Nat.add_zero] at q0
  exact q0
theorem DV.row {w : World} {g c r cap L : Nat} {D : Dev} (h : DV w g c (.slice (some ⟨r, 0, none⟩) L cap) D) {k : Nat} (hk : k < D.now.length) (x : ByteArray) : DV (w.setCell ⟨r, k, none⟩ (.string x)) g c (.slice (some ⟨r, 0, none⟩) L cap) ⟨D.now.set k x, D.sure, D.lost⟩ := by
  have hv := h.vc (k := r) rfl
  have hr := EK.row_set (K := kS) h.2.1 (k := k) (j := 0) hk (by decide) x (.string x) rfl
  simp only [show kS.sz = 1 from rfl, Nat.mul_one, Nat.add_zero] at hr
  refine ⟨obj_far h.1 hv.2.symm _, hr, ?_⟩
  obtain ⟨l, q, h3, h4⟩ := h.2.2
  exact ⟨l, q, obj_far h3 hv.1.symm _, h4⟩
theorem DV.dup {w : World} {g c : Nat} {v : Value} {D : Dev} (h : DV w g c v D) {k : Nat} {x : ByteArray} (hx : D.now.getD k ⟨#[]⟩ = x) : ∃ w', (Instr.mapUpdate 66 (.map (some c)) (.int .i64 (k : Int)) (.string x)).run Try.prog w = .ok () w' ∧ DV w' g c v ⟨D.now, upm D.sure (k : Int) (some (D.now.getD k ⟨#[]⟩)), D.lost⟩ ∧ Fr (fun j => j = c) w w' := by
  obtain ⟨w', h1, h2, h3, h4⟩ := MK.run_put h.2.2 (k : Int) x
  refine ⟨w', h1, ⟨h3.obj h.1 h.gc, EK.row_fr h.2.1 h3 (fun k hk => (h.vc hk).1), ?_⟩, h3⟩
  show kM.mp w' c (upm D.sure (k : Int) (some (D.now.getD k ⟨#[]⟩)))
  rw [hx]
  exact h2
def DwS (w : World) (g c r L cap a n : Nat) (D : Dev) (s : ByteArray) (wr : World) (i : Value) : Prop :=
  ∃ k : Nat, i = .int .i64 (k : Int) ∧ k ≤ n ∧ DV wr g c (.slice (some ⟨r, 0, none⟩) L cap) (D.puts a s k) ∧ Fr (fun j => j = c ∨ j = r) w wr
set_option maxHeartbeats 4000000 in
set_option maxRecDepth 100000 in
/-- Sectors are written. -/
theorem dwrite_ok {w : World} {g c r L cap : Nat} {D : Dev} (h : DV w g c (.slice (some ⟨r, 0, none⟩) L cap) D) (hlost : D.lost = false) (a n : Nat) (s : ByteArray) (hs : s.size = n * 64) (hn : 1 ≤ n) (ha : a + n ≤ L) (hL : L ≤ 65536) (hDL : D.now.length = L) :
    Calls Try.prog 21 #[.pointer (some ⟨g, 0, none⟩), .int .i64 (a : Int), .string s] w fun e w' => e = .returned (.int .i64 0) ∧ DV w' g c (.slice (some ⟨r, 0, none⟩) L cap) (D.puts a s n) ∧ Fr (fun j => j = c ∨ j = r) w w' := by
  have hdc := dcheck_any h.1 (by omega) (a : Int) (n : Int) (by omega) (by omega) true
  rw [hlost, show chkE (L : Int) (a : Int) (n : Int) true false = 0 by unfold chkE; rw [if_neg (by rintro (e | e | e) <;> first | omega | cases e), if_neg (by omega), if_neg (by decide)]] at hdc
  have HC := hide hdc
  have HS := hide (show DwS w g c r L cap a n D s w (.int .i64 0) from ⟨0, rfl, Nat.zero_le _, h, Fr.refl _ _⟩)
  have hcap : L ≤ cap ∧ cap ≤ 9223372036854775807 := by
    obtain ⟨r', cap', e, h1, h2, -⟩ := EK.row_cells (K := kS) h.2.1 (k := a) (by omega)
    cases e
    rw [hDL] at h1
    simp only [maxLen] at h2
    exact ⟨h1, by omega⟩
  clear h hdc
  have HSZ := hide hs
  have HDL := hide hDL
  have hszi : (s.size : Int) = ((n * 64 : Nat) : Int) := by rw [hs]
  clear hs hDL
  have hq : ((n * 64 : Nat) : Int).tdiv 64 = (n : Int) := by rw [Int.tdiv_eq_ediv_of_nonneg (by omega)]; omega
  have hq2 : ((n * 64 : Nat) : Int) / 64 = (n : Int) := by omega
  have hr1 : ((n * 64 : Nat) : Int).tmod 64 = 0 := by rw [Int.tmod_eq_emod_of_nonneg (by omega)]; omega
  have hr2 : ((n * 64 : Nat) : Int) % 64 = 0 := by omega
  have hnb : (n : Int) ≤ 65536 := by omega
  have hab : (a : Int) ≤ 65536 := by omega
  have hnb2 : ((n * 64 : Nat) : Int) ≤ 4194304 := by omega
  go_enter Try.func21, Try.ntmps21
  go_wp2_with fail
  refine HC.out.mono ?_
  rintro e w1 ⟨rfl, rfl⟩
  go_wp2_with fail
  go_loopw [28] (fun i wr => DwS w g c r L cap a n D s wr i) (fun i _ => n - (intOf i).toNat)
  case atStart => exact HS.out
  case round =>
    obtain ⟨k, rfl, hk, hdv, hf⟩ := hrel
    have HF := hide hf
    have HV := hide hdv
    have z0 := obj_cell hdv.1 0
    have z1 := obj_cell hdv.1 1
    simp only [List.getElem?_toArray, List.getElem?_cons_zero, List.getElem?_cons_succ] at z0 z1
    clear hf
    rcases Nat.lt_or_ge k n with hkn | hkn
    · obtain ⟨m, hm⟩ : ∃ m, m = a + k := ⟨_, rfl⟩
      have hmi : (a : Int) + (k : Int) = (m : Int) := by omega
      have hki : (k : Int) < (n : Int) := by omega
      have hml : m < L := by omega
      have hmli : (m : Int) < (L : Int) := by omega
      have hlen : (D.puts a s k).now.length = L := by rw [puts_len]; exact HDL.out
      obtain ⟨p1, hp1⟩ : ∃ p1, p1 = k * 64 := ⟨_, rfl⟩
      obtain ⟨p2, hp2⟩ : ∃ p2, p2 = (k + 1) * 64 := ⟨_, rfl⟩
      have h64a : (k : Int) * 64 = (p1 : Int) := by omega
      have h64b : ((k : Int) + 1) * 64 = (p2 : Int) := by omega
      have h64c : (p2 : Int) ≤ (s.size : Int) := by have := HSZ.out; omega
      have h64d : (p1 : Int) ≤ (p2 : Int) := by omega
      have h64e : 0 ≤ (p1 : Int) ∧ (p1 : Int) ≤ (p2 : Int) ∧ (p2 : Int) ≤ (s.size : Int) := by omega
      have HCK := hide (show s.extract p1 p2 = chunk s k by rw [hp1, hp2]; rfl)
      have hp2b : (p2 : Int) ≤ 4194304 := by omega
      have hw1 : IntKind.i64.wrap (p1 : Int) = (p1 : Int) := by rw [IntKind.wrap_i64]; omega
      have hw2 : IntKind.i64.wrap ((k : Int) + 1) = (k : Int) + 1 := by rw [IntKind.wrap_i64]; omega
      have hw3 : IntKind.i64.wrap (p2 : Int) = (p2 : Int) := by rw [IntKind.wrap_i64]; omega
      have hsl : ∀ W : World, (Instr.sliceAt 9 (.string s) (some (.int .i64 (p1 : Int))) (some (.int .i64 (p2 : Int))) none).run Try.prog W = .ok (.string (s.extract p1 p2)) W := fun W => by
        have u1 : p1 ≤ p2 := by omega
        have u2 : p2 ≤ s.size := by omega
        have u3 : ¬ s.size < p2 := by omega
        have u4 : ¬ p2 < p1 := by omega
        simp [Instr.sliceAt, Instr.slice, Instr.sliceBounds, Instr.sliceBound, asIntOf, run_underlying Try.underlying9, u1, u2]
      have HSL := hide hsl
      clear hp1 hp2 hsl
      obtain ⟨x, hx⟩ : ∃ x, x = (D.puts a s k).now[m]'(by omega) := ⟨_, rfl⟩
      have hxd : (D.puts a s k).now.getD m ⟨#[]⟩ = x := by rw [List.getD_eq_getElem?_getD, List.getElem?_eq_getElem (by omega), Option.getD_some, hx]
      have q0 := kS_cell hdv.2.1 (k := m) (by omega)
      rw [← hx] at q0
      have t0 := EK.row_frozen (K := kS) hdv.2.1 m
      have hlk := MK.run_look_ok hdv.2.2 (m : Int)
      have HX := hide hxd
      have HM := hide hm
      have HL := hide hlen
      clear hx hxd hm hlen
      rcases e : (D.puts a s k).sure (m : Int) with _ | y
      · have hrun : (Instr.lookup 66 (.map (some c)) (.int .i64 (m : Int)) true).run Try.prog wr = .ok (.tuple #[.string ⟨#[]⟩, .bool false]) wr := by rw [e] at hlk; exact hlk
        have HE := hide e
        clear hlk e hdv
        go_wp2_with fail
        refine wp_stl 12 (by kernel_rfl) (by kernel_rfl) ?_
        simp only [List.take_succ_cons, List.take_zero, List.drop_succ_cons, List.drop_zero]
        repeat still_step
        refine wpStill_nil ?_
        obtain ⟨w2, hup, hd2, hf2⟩ := (show DV wr.drew g c (.slice (some ⟨r, 0, none⟩) L cap) (D.puts a s k) from HV.out).dup HX.out
        refine wpList_mapup rfl 66 (.tmp 48) (.tmp 49) (.tmp 56) rfl rfl rfl rfl hup ?_
        have z0 := obj_cell hd2.1 0
        have z1 := obj_cell hd2.1 1
        simp only [List.getElem?_toArray, List.getElem?_cons_zero, List.getElem?_cons_succ] at z0 z1
        have q0 := kS_cell hd2.2.1 (k := m) (by show m < (D.puts a s k).now.length; rw [HL.out]; exact hml)
        have t0 := EK.row_frozen (K := kS) hd2.2.1 m
        have HD2 := hide hd2
        have HF2 := hide hf2
        clear hd2 hf2 hup hrun
        go_wp2_with fail
        refine wp_stl 13 (by kernel_rfl) (by kernel_rfl) ?_
        simp only [List.take_succ_cons, List.take_zero, List.drop_succ_cons, List.drop_zero]
        repeat (first | still_step | refine wpStill_slice rfl 9 (.tmp 62) (some (.tmp 64)) (some (.tmp 67)) rfl rfl rfl rfl (HSL.out _) ?_)
        refine wpStill_nil ?_
        go_wp2
        rw [HCK.out]
        refine ⟨?_, ?_⟩
        · refine ⟨k + 1, by rw [Int.natCast_add]; rfl, hkn, ?_, ?_⟩
          · have hres := HD2.out.row (k := m) (by show m < (D.puts a s k).now.length; rw [HL.out]; exact hml) (chunk s k)
            show DV _ g c _ ((D.puts a s k).put (a + k) (chunk s k))
            unfold Dev.put
            rw [← HM.out, HE.out, if_neg (by simp)]
            exact hres
          · exact ((HF.out.drew.trans HF2.out (fun i _ e => .inl e)).drew).setCell (p := ⟨r, m, none⟩) (fun _ => .inr rfl) _
        · simp only [intOf]; omega
      · have hrun : (Instr.lookup 66 (.map (some c)) (.int .i64 (m : Int)) true).run Try.prog wr = .ok (.tuple #[.string y, .bool true]) wr := by rw [e] at hlk; exact hlk
        have HE := hide e
        clear hlk e hdv
        go_wp2_with fail
        refine wp_stl 13 (by kernel_rfl) (by kernel_rfl) ?_
        simp only [List.take_succ_cons, List.take_zero, List.drop_succ_cons, List.drop_zero]
        repeat (first | still_step | refine wpStill_slice rfl 9 (.tmp 62) (some (.tmp 64)) (some (.tmp 67)) rfl rfl rfl rfl (HSL.out _) ?_)
        refine wpStill_nil ?_
        go_wp2
        rw [HCK.out]
        refine ⟨?_, ?_⟩
        · refine ⟨k + 1, by rw [Int.natCast_add]; rfl, hkn, ?_, ?_⟩
          · have hres := HV.out.row (k := m) (by rw [HL.out]; exact hml) (chunk s k)
            show DV _ g c _ ((D.puts a s k).put (a + k) (chunk s k))
            unfold Dev.put
            rw [← HM.out, HE.out, if_pos (by simp)]
            exact hres
          · exact (HF.out.drew).setCell (p := ⟨r, m, none⟩) (fun _ => .inr rfl) _
        · simp only [intOf]; omega
    · have hke : k = n := by omega
      subst hke
      go_wp2
      go_ret
      exact ⟨rfl, HV.out, HF.out⟩
end Go.Proofs.Ytpebilhdlblgoaa
