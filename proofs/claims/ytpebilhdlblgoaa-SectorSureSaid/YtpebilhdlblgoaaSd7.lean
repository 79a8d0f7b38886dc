/- Chapters 09 and 10, sector: Read. -/
import Derived.Test.YtpebilhdlblgoaaSd6
import Derived.Test.YtpebilhdlblgoaaApp
namespace Go.Proofs.Ytpebilhdlblgoaa
open Go.RowKit

section
variable {P : Program} {ops : Array Oper} {rest : List Oper} {o : Oper} {a : Act} {w : World} {Q : Exit → Act → World → Prop}
theorem wpList_sliceS (hgd : o.guard = none) (ty : TypeId) (x : Operand) (lo hi : Option Operand) (ho : o.op = .slice ty x lo hi none) {v u : Value} {l' h' : Option Value} (hx : a.eval x = v) (hl : lo.map a.eval = l') (hh : hi.map a.eval = h')
    (hrun : (Instr.sliceAt ty v l' h' none).run P w = .ok u w) (h : wpList P ops Q rest (a.put o.dst u) w) : wpList P ops Q (o :: rest) a w :=
  wpList_plain hgd fun _ hK => by
    unfold Oper.wp execOp
    simp only [ho, hx, hl, hh, Option.map_none, Sem.run_bind, hrun, Result.andThen_ok, Sem.run_pure]
    exact hK _ _ h
theorem wpList_makeS {w' : World} (hgd : o.guard = none) (t : TypeId) (x y : Operand) (ho : o.op = .makeSlice t x y) {vx vy u : Value} (hx : a.eval x = vx) (hy : a.eval y = vy)
    (hrun : (Instr.makeSlice t vx vy).run P w = .ok u w') (h : wpList P ops Q rest (a.put o.dst u) w') : wpList P ops Q (o :: rest) a w :=
  wpList_plain hgd fun _ hK => by
    unfold Oper.wp execOp
    simp only [ho, hx, hy, Sem.run_bind, hrun, Result.andThen_ok, Sem.run_pure]
    exact hK _ _ h
theorem wpList_convS (hgd : o.guard = none) (t u : TypeId) (x : Operand) (ho : o.op = .convert t u x) {vx v : Value} (hx : a.eval x = vx)
    (hrun : (convert t u vx).run P w = .ok v w) (h : wpList P ops Q rest (a.put o.dst v) w) : wpList P ops Q (o :: rest) a w :=
  wpList_plain hgd fun _ hK => by
    unfold Oper.wp execOp
    simp only [ho, hx, Sem.run_bind, hrun, Result.andThen_ok, Sem.run_pure]
    exact hK _ _ h
end
theorem info5_parts : ∃ i, Try.prog.info? 5 = some i ∧ i.zero = some (.int .u8 0) ∧ i.size = 1 ∧ i.bytes = 1 := by
  have h := info5
  rcases e : Try.prog.info? 5 with _ | i
  · rw [e] at h
    cases h
  · rw [e] at h
    simp only [Option.map_some, Option.some.injEq, Prod.mk.injEq] at h
    exact ⟨i, rfl, h.1, h.2.1, h.2.2⟩
set_option maxRecDepth 10000 in
/-- append(b, s...), s a string. -/
theorem app_text {w : World} {B : Nat} {v : Value} {l : List UInt8} (h : OwB w B v l) (s : ByteArray) (hl : l.length + s.size ≤ 1073741824) (hB : B ≤ w.heap.size) :
    ∃ v' w', (Builtin.append_ #[70, 9] 70 #[v, .string s]).run Try.prog w = .ok v' w' ∧ OwB w' B v' (l ++ s.data.toList) ∧ w.grownBy w' v.ownBlock := by
  obtain ⟨i, hi, hz, h1, h2⟩ := info5_parts
  obtain ⟨v', w', hr, ho, hg, -⟩ := Lib.run_append_own_string (P := Try.prog) w B 70 9 70 5 i Try.underlying70 Try.underlying9 hi hz h1 h2 v l.length (byteVals l) h s (by simp only [maxLen]; omega) (by omega) hB
  refine ⟨v', w', hr, ?_, hg⟩
  unfold OwB
  rw [List.length_append, ← size_list, show byteVals (l ++ s.data.toList) = byteVals l ++ Lib.strCells s by simp [byteVals, Lib.strCells]]
  exact ho
def rdl (D : Dev) (a k : Nat) : List UInt8 := ((D.now.drop a).take k).flatMap (·.data.toList)
theorem rdl_succ (D : Dev) (a k : Nat) (h : a + k < D.now.length) : rdl D a (k + 1) = rdl D a k ++ (D.now[a + k]).data.toList := by
  unfold rdl
  rw [List.take_add_one, List.getElem?_drop, List.getElem?_eq_getElem h]
  simp
theorem rdl_len {D : Dev} (hd : Dok D) (a : Nat) : ∀ k, a + k ≤ D.now.length → (rdl D a k).length = k * 64
  | 0, _ => by simp [rdl]
  | k + 1, h => by
    rw [rdl_succ D a k (by omega), List.length_append, rdl_len hd a k (by omega), ← size_list, hd.sz _ (List.getElem_mem _)]
    omega
def DrS (w : World) (a n : Nat) (D : Dev) (wr : World) (bv i : Value) : Prop :=
  ∃ k : Nat, i = .int .i64 (k : Int) ∧ k ≤ n ∧ OwB wr w.heap.size bv (rdl D a k) ∧ Below w.heap.size w wr
set_option maxHeartbeats 4000000 in
set_option maxRecDepth 100000 in
/-- Sectors are read. -/
theorem dread_ok {w : World} {g c r L cap : Nat} {D : Dev} (h : DV w g c (.slice (some ⟨r, 0, none⟩) L cap) D) (hd : Dok D) (hlost : D.lost = false) (a n : Nat) (hn : 1 ≤ n) (ha : a + n ≤ L) (hL : L ≤ 65536) (hDL : D.now.length = L) :
    Calls Try.prog 23 #[.pointer (some ⟨g, 0, none⟩), .int .i64 (a : Int), .int .i64 (n : Int)] w fun e w' => e = .returned (.tuple #[.string (D.read a n), .int .i64 0]) ∧ Below w.heap.size w w' := by
  have hdc := dcheck_any h.1 (by omega) (a : Int) (n : Int) (by omega) (by omega) true
  rw [hlost, show chkE (L : Int) (a : Int) (n : Int) true false = 0 by unfold chkE; rw [if_neg (by rintro (e | e | e) <;> first | omega | cases e), if_neg (by omega), if_neg (by decide)]] at hdc
  have HC := hide hdc
  have hcap : L ≤ cap ∧ cap ≤ 9223372036854775807 := by
    obtain ⟨r', cap', e, h1, h2, -⟩ := EK.row_cells (K := kS) h.2.1 (k := a) (by omega)
    cases e
    rw [hDL] at h1
    simp only [maxLen] at h2
    exact ⟨h1, by omega⟩
  obtain ⟨m, hm⟩ : ∃ m, m = a + n := ⟨_, rfl⟩
  have hmi : (a : Int) + (n : Int) = (m : Int) := by omega
  obtain ⟨q, hq⟩ : ∃ q, q = n * 64 := ⟨_, rfl⟩
  have hqi : (n : Int) * 64 = (q : Int) := by omega
  have hq0 : 0 ≤ (q : Int) ∧ (q : Int) ≤ 4194304 := by omega
  obtain ⟨i5, hi5, hz5, hs5, hb5⟩ := info5_parts
  obtain ⟨W1, hmk, hown, hgr⟩ := run_make_own (P := Try.prog) (w := w) w.heap.size 70 5 i5 (.int .u8 0) 1 Try.underlying70 hi5 hz5 hs5 .i64 .i64 q (by rw [hb5]; omega) (by simp only [maxLen]; omega) (Nat.le_refl _)
  have hbW : Below w.heap.size w W1 := ⟨hgr.os, hgr.tape, hgr.output, hgr.size, fun k hk => hgr.block k hk (by simp)⟩
  have h1 := h.below hbW
  have HMK := hide hmk
  have HSL := hide (show (Instr.sliceAt 67 (.slice (some ⟨r, 0, none⟩) L cap) (some (.int .i64 (a : Int))) (some (.int .i64 (m : Int))) none).run Try.prog W1 = .ok (.slice (some ⟨r, a, none⟩) n (cap - a)) W1 by
    have h2 := (EK.part (K := kS) (w := W1) (l := D.now) h1.2.1 (lo := a) (hi := m) (by omega) (by omega) _ _ (.inr rfl) (.inr rfl)).1
    have e1 : partV kS.sz (.slice (some ⟨r, 0, none⟩) L cap) a m = .slice (some ⟨r, a, none⟩) n (cap - a) := by
      show Value.slice (if cap = a then some ⟨r, 0, none⟩ else Option.map (fun x => x.add (a * kS.sz)) (some (⟨r, 0, none⟩ : Addr))) (m - a) (cap - a) = _
      rw [if_neg (by omega), show m - a = n by omega]
      show Value.slice (some ((⟨r, 0, none⟩ : Addr).add (a * 1))) n (cap - a) = _
      rw [add_plain', Nat.zero_add, Nat.mul_one]
    rw [e1] at h2
    exact h2)
  have HS := hide (show DrS w a n D W1 (.slice (some ⟨w.heap.size, 0, none⟩) 0 q) (.int .i64 0) from ⟨0, rfl, Nat.zero_le _, hown, hbW⟩)
  have HV := hide h
  have z0 := obj_cell h1.1 0
  have y0 := obj_cell h.1 0
  simp only [List.getElem?_toArray, List.getElem?_cons_zero] at z0 y0
  have hcap2 : n ≤ cap - a ∧ cap - a ≤ 9223372036854775807 := by omega
  have HDL := hide hDL
  have HD := hide hd
  have HQ := hide hq
  clear h hdc hmk hown hgr hbW h1 hi5 hz5 hs5 hb5 hm hq hd
  go_enter Try.func23, Try.ntmps23
  go_wp2_with fail
  refine HC.out.mono ?_
  rintro e w1 ⟨rfl, rfl⟩
  go_wp2_with (first | refine wpList_makeS rfl 70 (.const (.int .i64 0)) (.tmp 20) rfl rfl rfl HMK.out ?_ | refine wpList_sliceS rfl 67 (.tmp 25) (some (.tmp 26)) (some (.tmp 29)) rfl rfl rfl rfl HSL.out ?_)
  go_loopw [9, 32] (fun b i wr => DrS w a n D wr b i) (fun _ i _ => n - (intOf i).toNat)
  case atStart => exact HS.out
  case round =>
    obtain ⟨k, rfl, hk, hown, hb⟩ := hrel
    rcases Nat.lt_or_ge k n with hkn | hkn
    · have hki : (k : Int) < (n : Int) := by omega
      have hak : a + k < D.now.length := by have := HDL.out; omega
      have q0 := kS_cell (HV.out.below hb).2.1 (k := a + k) hak
      have hx := HD.out.sz _ (List.getElem_mem hak)
      have hrl := rdl_len HD.out a k (by omega)
      have hrs := rdl_succ D a k hak
      obtain ⟨x, hxe⟩ : ∃ x, x = D.now[a + k] := ⟨_, rfl⟩
      rw [← hxe] at q0 hx hrs
      obtain ⟨v2, w2, hrun, hown2, hgr⟩ := app_text hown x (by rw [hrl, hx]; omega) hb.size
      have hb2 : Below w.heap.size w w2 := ⟨hgr.os.trans hb.os, hgr.tape.trans hb.tape, hgr.output.trans hb.output, Nat.le_trans hb.size hgr.size, fun j hj => (hgr.block j (Nat.lt_of_lt_of_le hj hb.size) (fun e => by
        rcases hown.2 with ⟨e1, _⟩ | ⟨g', c', cur, e1, h1, _⟩
        · rw [e1] at e; cases e
        · rw [e1] at e; simp only [Value.ownBlock, Option.some.injEq] at e; omega)).trans (hb.block j hj)⟩
      have HR2 := hide (show OwB w2 w.heap.size v2 (rdl D a (k + 1)) by rw [hrs]; exact hown2)
      have HB2 := hide hb2
      have HRUN := hide hrun
      clear hown hown2 hgr hb2 hrun hrl hrs hx hxe hb
      go_wp2_with (refine wpList_append_run rfl (.tmp 36) (.tmp 37) 70 9 rfl rfl rfl HRUN.out ?_)
      exact ⟨⟨k + 1, by rw [Int.natCast_add]; rfl, hkn, HR2.out, HB2.out⟩, by simp only [intOf]; omega⟩
    · have hke : k = n := by omega
      subst hke
      obtain ⟨A, c2, hv, hlc, hrd⟩ := OwB.rd hown
      subst hv
      have hcv := conv_str (cap := c2) (w := wr) (A := A) (rdl D a k) rfl (fun ad e => (hrd.2 ad e).2) hrd.1
      have HCV := hide hcv
      have HB := hide hb
      clear hcv hrd hown hb
      generalize (rdl D a k).length = len at HCV hlc
      go_wp2_with (refine wpList_convS rfl 70 9 (.tmp 40) rfl rfl HCV.out ?_)
      go_ret2
      exact ⟨rfl, HB.out⟩
end Go.Proofs.Ytpebilhdlblgoaa
