/- Chapters 09 and 10, sector: New. -/
import Derived.Test.YtpebilhdlblgoaaSd7
namespace Go.Proofs.Ytpebilhdlblgoaa
open Go.RowKit

def zB : List UInt8 := List.replicate 64 0
def nowN (L k : Nat) : List ByteArray := List.replicate k ⟨zB.toArray⟩ ++ List.replicate (L - k) ⟨#[]⟩
theorem nowN_len (L k : Nat) (h : k ≤ L) : (nowN L k).length = L := by
  unfold nowN
  rw [List.length_append, List.length_replicate, List.length_replicate]
  omega
theorem nowN_set (L k : Nat) (h : k < L) : (nowN L k).set k ⟨zB.toArray⟩ = nowN L (k + 1) := by
  unfold nowN
  rw [List.set_append_right _ _ (by simp), List.length_replicate, Nat.sub_self, show L - k = (L - (k + 1)) + 1 by omega, List.replicate_succ, List.set_cons_zero, List.replicate_succ']
  simp
def cntN (n : Int) : Nat := if n < 1 then 1 else if n < 4096 then n.toNat else 4096
def newD (n : Int) : Dev := ⟨List.replicate (cntN n) ⟨zB.toArray⟩, fun _ => none, false⟩
theorem newD_ok (n : Int) : Dok (newD n) := ⟨fun x hx => by
  have : x = _ := (List.mem_replicate.1 hx).2
  rw [this]
  rfl, fun k x h => by cases h⟩
theorem newD_len (n : Int) : (newD n).now.length = cntN n := List.length_replicate ..
theorem cntN_rng (n : Int) : 1 ≤ cntN n ∧ cntN n ≤ 4096 := by
  unfold cntN
  split
  · omega
  · split <;> omega
def DnS (w : World) (g c r L : Nat) (wr : World) (i : Value) : Prop :=
  ∃ k : Nat, i = .int .i64 (k : Int) ∧ k ≤ L ∧ DV wr g c (.slice (some ⟨r, 0, none⟩) L L) ⟨nowN L k, fun _ => none, false⟩ ∧ Below w.heap.size w wr
set_option maxHeartbeats 4000000 in
set_option maxRecDepth 100000 in
theorem dnew_any (n : Int) (w : World) : Calls Try.prog 20 #[.int .i64 n] w fun e w' => ∃ g c r, e = .returned (.pointer (some ⟨g, 0, none⟩)) ∧ DV w' g c (.slice (some ⟨r, 0, none⟩) (cntN n) (cntN n)) (newD n) ∧ Below w.heap.size w w' ∧ w.heap.size ≤ g ∧ w.heap.size ≤ c ∧ w.heap.size ≤ r := by
  obtain ⟨L, hL⟩ : ∃ L, L = cntN n := ⟨_, rfl⟩
  have hLr := cntN_rng n
  rw [← hL] at hLr
  have hmm : ∀ W : World, (Instr.makeMap 66 none).run Try.prog W = .ok (.map (some W.heap.size)) (W.alloc (.map #[] 0)) := fun W => run_makeMap (P := Try.prog) 66 W
  obtain ⟨M, hM⟩ : ∃ M : Int, M = if n < 1 then 1 else n := ⟨_, rfl⟩
  have hmx : ∀ (ts : Array TypeId) (t : TypeId) (W : World), (Builtin.max_ ts t #[.int .i64 n, .int .i64 1]).run Try.prog W = .ok (.int .i64 M) W := fun ts t W => by
    rw [hM]
    simp only [Builtin.max_]
    by_cases h : n < 1
    · simp [Builtin.max2, h]
    · simp [Builtin.max2, h]
  have hmn : ∀ (ts : Array TypeId) (t : TypeId) (W : World), (Builtin.min_ ts t #[.int .i64 M, .int .i64 4096]).run Try.prog W = .ok (.int .i64 (L : Int)) W := fun ts t W => by
    have e : (L : Int) = if (4096 : Int) < M then 4096 else M := by
      rw [hL, hM]
      unfold cntN
      by_cases h1 : n < 1
      · rw [if_pos h1, if_pos h1, if_neg (by omega)]
        rfl
      · rw [if_neg h1, if_neg h1]
        by_cases h2 : n < 4096
        · rw [if_pos h2, if_neg (by omega)]
          omega
        · rw [if_neg h2]
          split <;> omega
    rw [e, run_min_int2]
  have HL := hide hL
  have HM := hide hM
  have hmk := run_make_row' (P := Try.prog) 67 9 (.string ⟨#[]⟩) 16 Try.underlying67 inf9 rfl .i64 .i64 L (by omega) (by omega)
  have hmz : ∀ W : World, (Instr.makeSlice 70 (.int .i64 64) (.int .i64 64)).run Try.prog W = .ok (.slice (some ⟨W.heap.size, 0, none⟩) 64 64) (W.alloc (.cells (madeCells #[.int .u8 0] 64) 5)) := run_make_row' (P := Try.prog) 70 5 (.int .u8 0) 1 Try.underlying70 info5 rfl .i64 .i64 64 (by omega) (by omega)
  clear hL hM
  obtain ⟨W2, hW2⟩ : ∃ W2, W2 = ((w.alloc (.map #[] 0)).alloc (.cells (madeCells #[.string ⟨#[]⟩] L) 9)).alloc (.cells #[.slice (some ⟨w.heap.size + 1, 0, none⟩) L L, .map (some w.heap.size), .bool false] 69) := ⟨_, rfl⟩
  have hb2 : Below w.heap.size w W2 := by
    rw [hW2]
    exact (((Below.refl _ _).alloc (Nat.le_refl _) _).alloc (by simp) _).alloc (by simp; omega) _
  have hdv : DV W2 (w.heap.size + 1 + 1) w.heap.size (.slice (some ⟨w.heap.size + 1, 0, none⟩) L L) ⟨nowN L 0, fun _ => none, false⟩ := by
    have e1 : (w.alloc (.map #[] 0)).heap.size = w.heap.size + 1 := by simp
    have e2 : ((w.alloc (.map #[] 0)).alloc (.cells (madeCells #[.string ⟨#[]⟩] L) 9)).heap.size = w.heap.size + 1 + 1 := by simp
    have hln := nowN_len L 0 (by omega)
    refine ⟨?_, ?_, ?_⟩
    · rw [hW2]
      have := obj_new ((w.alloc (.map #[] 0)).alloc (.cells (madeCells #[.string ⟨#[]⟩] L) 9)) (.cells #[.slice (some ⟨w.heap.size + 1, 0, none⟩) L L, .map (some w.heap.size), .bool false] 69)
      rw [e2] at this
      exact this
    · show W2.ownsRow 0 9 1 (.slice (some ⟨w.heap.size + 1, 0, none⟩) L L) (nowN L 0).length (kS.vals (nowN L 0))
      have hvl := EK.vlen (K := kS) (nowN L 0)
      rw [hln] at hvl ⊢
      refine ⟨hvl, .inr ⟨w.heap.size + 1, L, madeCells #[.string ⟨#[]⟩] L, rfl, Nat.zero_le _, ?_, Nat.le_refl _, ?_, ?_, ?_⟩⟩
      · rw [hW2]
        have := obj_new (w.alloc (.map #[] 0)) (.cells (madeCells #[.string ⟨#[]⟩] L) 9)
        rw [e1] at this
        exact obj_alloc this _
      · simp only [maxLen]; omega
      · rw [size_madeCells]; omega
      · rw [toList_madeCells_one, Nat.mul_one, List.take_of_length_le (by simp)]
        have e3 : ∀ q : Nat, List.replicate q (Value.string ⟨#[]⟩) = kS.vals (List.replicate q ⟨#[]⟩) := fun q => by
          induction q with
          | zero => rfl
          | succ q ih => rw [List.replicate_succ, List.replicate_succ, ih]; rfl
        rw [e3]
        rfl
    · rw [hW2]
      exact MK.mp_new (clock := 0) (obj_alloc (obj_alloc (obj_new w _) _) _)
  have hcv : (convert 70 9 (.slice (some ⟨w.heap.size + 1 + 1 + 1, 0, none⟩) 64 64)).run Try.prog (W2.alloc (.cells (madeCells #[.int .u8 0] 64) 5)) = .ok (.string ⟨zB.toArray⟩) (W2.alloc (.cells (madeCells #[.int .u8 0] 64) 5)) := by
    refine conv_str zB rfl (fun ad ha j u hu => ?_) (fun h => by simp at h)
    cases ha
    have e3 : W2.heap.size = w.heap.size + 1 + 1 + 1 := by rw [hW2]; simp
    rw [add_plain', Nat.zero_add, ← e3, obj_cell (obj_new W2 _) j, ← Array.getElem?_toList, toList_madeCells_one, ← hu]
    simp [byteVals, zB]
  have hb3 : Below w.heap.size w (W2.alloc (.cells (madeCells #[.int .u8 0] 64) 5)) := hb2.alloc (by rw [hW2]; simp; omega) _
  have hdv3 := hdv.below ((Below.refl W2.heap.size W2).alloc (Nat.le_refl _) (.cells (madeCells #[.int .u8 0] 64) 5))
  have z0 := obj_cell hdv3.1 0
  simp only [List.getElem?_toArray, List.getElem?_cons_zero] at z0
  have HS := hide (show DnS w (w.heap.size + 1 + 1) w.heap.size (w.heap.size + 1) L (W2.alloc (.cells (madeCells #[.int .u8 0] 64) 5)) (.int .i64 0) from ⟨0, rfl, Nat.zero_le _, hdv3, hb3⟩)
  have HCV := hide hcv
  have hW3 : W2.heap.size = w.heap.size + 1 + 1 + 1 := by rw [hW2]; simp
  clear hb2 hdv hdv3 hb3 hcv
  go_enter Try.func20, Try.ntmps20
  go_wp2
  rw [← hW2]
  go_wp2_with fail
  rw [HCV.out]
  go_wp2_with fail
  go_loopw [20] (fun i wr => DnS w (w.heap.size + 1 + 1) w.heap.size (w.heap.size + 1) L wr i) (fun i _ => L - (intOf i).toNat)
  case atStart =>
    have h := HS.out
    rw [hW2] at h
    exact h
  case round =>
    obtain ⟨k, rfl, hk, hdv, hb⟩ := hrel
    have z0 := obj_cell hdv.1 0
    simp only [List.getElem?_toArray, List.getElem?_cons_zero] at z0
    rcases Nat.lt_or_ge k L with hkl | hkl
    · have hkn : k < (nowN L k).length := by rw [nowN_len L k hk]; exact hkl
      have q0 := kS_cell hdv.2.1 (k := k) hkn
      have t0 := EK.row_frozen (K := kS) hdv.2.1 k
      have HR := hide (hdv.row (k := k) hkn ⟨zB.toArray⟩)
      have HB := hide (hb.setCell (p := ⟨w.heap.size + 1, k, none⟩) (by show w.heap.size ≤ w.heap.size + 1; omega) (.string ⟨zB.toArray⟩))
      obtain ⟨x, hx⟩ : ∃ x, x = (nowN L k)[k]'hkn := ⟨_, rfl⟩
      rw [← hx] at q0
      have hki : (k : Int) < (L : Int) := by omega
      clear hdv hb hx
      go_wp2
      refine ⟨⟨k + 1, by rw [Int.natCast_add]; rfl, hkl, ?_, HB.out⟩, by simp only [intOf]; omega⟩
      have h := HR.out
      rw [nowN_set L k hkl] at h
      exact h
    · have hke : k = L := by omega
      subst hke
      have HV := hide hdv
      have HB := hide hb
      clear hdv hb
      go_wp2
      go_ret
      refine ⟨w.heap.size + 1 + 1, w.heap.size, w.heap.size + 1, rfl, ?_, HB.out, by omega, by omega, by omega⟩
      have h := HV.out
      rw [← HL.out]
      rw [show newD n = ⟨nowN k k, fun _ => none, false⟩ by unfold newD nowN; rw [← HL.out, Nat.sub_self]; simp]
      exact h
end Go.Proofs.Ytpebilhdlblgoaa
