/- Chapter 09, sector: small functions of the law. -/
import Derived.Test.YtpebilhdlblgoaaSd9
namespace Go.Proofs.Ytpebilhdlblgoaa
open Go.RowKit

def ofL (b : UInt8) : List UInt8 := List.replicate 64 b
def ofS (b : UInt8) : ByteArray := ⟨(ofL b).toArray⟩
def ofN (b : UInt8) (k : Nat) : List UInt8 := List.replicate k b ++ List.replicate (64 - k) 0
theorem ofN_len (b : UInt8) (k : Nat) (h : k ≤ 64) : (ofN b k).length = 64 := by
  unfold ofN
  rw [List.length_append, List.length_replicate, List.length_replicate]
  omega
theorem ofN_set (b : UInt8) (k : Nat) (h : k < 64) : (ofN b k).set k b = ofN b (k + 1) := by
  unfold ofN
  rw [List.set_append_right _ _ (by simp), List.length_replicate, Nat.sub_self, show 64 - k = (64 - (k + 1)) + 1 by omega, List.replicate_succ, List.set_cons_zero, List.replicate_succ']
  simp
def OfS (w : World) (b : UInt8) (wr : World) (i : Value) : Prop :=
  ∃ k : Nat, i = .int .i64 (k : Int) ∧ k ≤ 64 ∧ wr.heap[w.heap.size]? = some (.cells (byteVals (ofN b k)).toArray 5 (0, 0)) ∧ Below w.heap.size w wr
set_option maxHeartbeats 4000000 in
set_option maxRecDepth 100000 in
theorem of_any (b : UInt8) (w : World) : Calls Try.prog 27 #[.int .u8 (b.toNat : Int)] w fun e w' => e = .returned (.string (ofS b)) ∧ Below w.heap.size w w' := by
  have hmz : ∀ W : World, (Instr.makeSlice 70 (.int .i64 64) (.int .i64 64)).run Try.prog W = .ok (.slice (some ⟨W.heap.size, 0, none⟩) 64 64) (W.alloc (.cells (madeCells #[.int .u8 0] 64) 5)) := run_make_row' (P := Try.prog) 70 5 (.int .u8 0) 1 Try.underlying70 info5 rfl .i64 .i64 64 (by omega) (by omega)
  have HS := hide (show OfS w b (w.alloc (.cells (madeCells #[.int .u8 0] 64) 5)) (.int .i64 0) from ⟨0, rfl, by omega, by
    rw [obj_new]
    congr 2
    rw [← Array.toList_inj, toList_madeCells_one]
    rfl, (Below.refl _ _).alloc (Nat.le_refl _) _⟩)
  go_enter Try.func27, Try.ntmps27
  go_wp2_with fail
  go_loopw [4] (fun i wr => OfS w b wr i) (fun i _ => 64 - (intOf i).toNat)
  case atStart => exact HS.out
  case round =>
    obtain ⟨k, rfl, hk, ho, hb⟩ := hrel
    rcases Nat.lt_or_ge k 64 with hkl | hkl
    · have q0 := obj_cell ho k
      rw [List.getElem?_toArray, byteVals_get (by rw [ofN_len b k hk]; exact hkl)] at q0
      have t0 := obj_frozen ho k
      have hki : (k : Int) < 64 := by omega
      have HO := hide (obj_set ho k (.int .u8 (b.toNat : Int)))
      have HB := hide (hb.setCell (p := ⟨w.heap.size, k, none⟩) (Nat.le_refl _) (.int .u8 (b.toNat : Int)))
      clear ho hb
      go_wp2
      refine ⟨⟨k + 1, by rw [Int.natCast_add]; rfl, hkl, ?_, HB.out⟩, by simp only [intOf]; omega⟩
      have h := HO.out
      rw [List.setIfInBounds_toArray, show (byteVals (ofN b k)).set k (.int .u8 (b.toNat : Int)) = byteVals (ofN b (k + 1)) by rw [← ofN_set b k hkl]; simp [byteVals, List.map_set]] at h
      exact h
    · have hke : k = 64 := by omega
      subst hke
      have hcv : (convert 70 9 (.slice (some ⟨w.heap.size, 0, none⟩) 64 64)).run Try.prog wr = .ok (.string (ofS b)) wr := by
        refine conv_str (ofL b) rfl (fun ad ha j u hu => ?_) (fun h => by simp at h)
        cases ha
        rw [add_plain', Nat.zero_add, obj_cell ho j, List.getElem?_toArray, ← hu]
        rw [show ofN b 64 = ofL b by simp [ofN, ofL]]
      have HCV := hide hcv
      have HB := hide hb
      clear ho hb hcv
      go_wp2_with (refine wpList_convS rfl 70 9 (.tmp 16) rfl rfl HCV.out ?_)
      go_ret
      exact ⟨rfl, HB.out⟩
set_option maxHeartbeats 4000000 in
set_option maxRecDepth 100000 in
/-- Two rows of the same numbers. -/
theorem ints_eq {w : World} {B1 B2 : Nat} {v1 v2 : Value} {l : List Int} (h1 : kI.row w B1 v1 l) (h2 : kI.row w B2 v2 l) (hl : l.length ≤ 65536) :
    Calls Try.prog 30 #[v1, v2] w fun e w' => e = .returned (.bool true) ∧ Below w.heap.size w w' := by
  obtain ⟨A1, c1, rfl⟩ := EK.row_slice h1
  obtain ⟨A2, c2, rfl⟩ := EK.row_slice h2
  obtain ⟨n, hn⟩ : ∃ n, n = l.length := ⟨_, rfl⟩
  rw [← hn] at h1 h2 hl ⊢
  have H1 := hide h1
  have H2 := hide h2
  have HN := hide hn
  clear h1 h2 hn
  have HS := hide (show ∃ k : Nat, (Value.int .i64 0) = .int .i64 (k : Int) ∧ k ≤ n ∧ Below w.heap.size w w from ⟨0, rfl, Nat.zero_le _, Below.refl _ _⟩)
  go_enter Try.func30, Try.ntmps30
  go_wp2_with fail
  go_loopw [5] (fun i wr => ∃ k : Nat, i = .int .i64 (k : Int) ∧ k ≤ n ∧ Below w.heap.size w wr) (fun i _ => n - (intOf i).toNat)
  case atStart => exact HS.out
  case round =>
    obtain ⟨k, rfl, hk, hb⟩ := hrel
    have HB := hide hb
    rcases Nat.lt_or_ge k n with hkn | hkn
    · have hkl : k < l.length := by have := HN.out; omega
      obtain ⟨r1, p1, e1, ha1, hb1, -, -, x1⟩ := EK.row_cells (EK.row_below H1.out hb) hkl
      obtain ⟨r2, p2, e2, ha2, hb2, -, -, x2⟩ := EK.row_cells (EK.row_below H2.out hb) hkl
      injection e1 with e1 e1b e1c
      injection e2 with e2 e2b e2c
      subst e1 e2 e1c e2c
      obtain ⟨x, hx⟩ : ∃ x, x = l[k] := ⟨_, rfl⟩
      have q1 : wr.cell? ⟨r1, k, none⟩ = some (.int .i64 x) := by
        have := x1 0 (by decide)
        simp only [show kI.sz = 1 from rfl, Nat.mul_one, Nat.add_zero] at this
        rw [this, hx]
        rfl
      have q2 : wr.cell? ⟨r2, k, none⟩ = some (.int .i64 x) := by
        have := x2 0 (by decide)
        simp only [show kI.sz = 1 from rfl, Nat.mul_one, Nat.add_zero] at this
        rw [this, hx]
        rfl
      have hc1 : n ≤ c1 := by have := HN.out; omega
      have hc2 : n ≤ c2 := by have := HN.out; omega
      simp only [maxLen] at hb1 hb2
      have hki : (k : Int) < (n : Int) := by omega
      clear x1 x2 hx ha1 ha2 e1b e2b hkl hb
      go_wp2_with fail
      go_quiet (fail)
      go_wp2
      exact ⟨⟨k + 1, by rw [Int.natCast_add]; rfl, hkn, HB.out.trans ⟨rfl, rfl, rfl, Nat.le_refl _, fun _ _ => rfl⟩⟩, by simp only [intOf]; omega⟩
    · have hke : k = n := by omega
      subst hke
      go_wp2
      go_ret
      exact ⟨rfl, HB.out⟩
theorem sectors_nil (w : World) : Calls Try.prog 24 #[.pointer none] w fun e w' => e = .returned (.int .i64 0) ∧ w = w' := by
  go_enter Try.func24, Try.ntmps24
  go_wp2
  go_ret
  exact ⟨rfl, rfl⟩
theorem sectors_any {w : World} {g c r L cap : Nat} {D : Dev} (h : DV w g c (.slice (some ⟨r, 0, none⟩) L cap) D) : Calls Try.prog 24 #[.pointer (some ⟨g, 0, none⟩)] w fun e w' => e = .returned (.int .i64 (L : Int)) ∧ w = w' := by
  have z0 := obj_cell h.1 0
  simp only [List.getElem?_toArray, List.getElem?_cons_zero] at z0
  clear h
  go_enter Try.func24, Try.ntmps24
  go_wp2
  go_ret
  exact ⟨rfl, rfl⟩
def Dev.lose (D : Dev) : Dev := ⟨D.now, fun _ => none, true⟩
theorem lose_nil (w : World) : Calls Try.prog 28 #[.pointer none] w fun e w' => e = .returned (.tuple #[]) ∧ w = w' := by
  go_enter Try.func28, Try.ntmps28
  go_wp2
  go_end0
  exact ⟨rfl, rfl⟩
set_option maxRecDepth 100000 in
theorem lose_any {w : World} {g c : Nat} {v : Value} {D : Dev} (h : DV w g c v D) : Calls Try.prog 28 #[.pointer (some ⟨g, 0, none⟩)] w fun e w' => e = .returned (.tuple #[]) ∧ DV w' g c v D.lose ∧ Fr (fun j => j = c ∨ j = g) w w' := by
  have HF := hide (flush_any h)
  clear h
  go_enter Try.func28, Try.ntmps28
  go_wp2_with fail
  refine HF.out.mono ?_
  rintro e w1 ⟨rfl, h1, hf1, hs1⟩
  have z2 := obj_cell h1.1 2
  have t2 := obj_frozen h1.1 2
  simp only [List.getElem?_toArray, List.getElem?_cons_zero, List.getElem?_cons_succ] at z2
  have HD := hide (show DV (w1.setCell ⟨g, 2, none⟩ (.bool true)) g c v D.lose from by
    have hff := (Fr.refl (fun j => j = g) w1).setCell (p := ⟨g, 2, none⟩) (fun _ => rfl) (.bool true)
    exact ⟨obj_set h1.1 2 _, EK.row_fr h1.2.1 hff (fun k hk e => (h1.vc hk).2 e), MK.mp_fr h1.2.2 hff (fun e => h1.gc e.symm)⟩)
  have HFF := hide (show Fr (fun j => j = c ∨ j = g) w (w1.setCell ⟨g, 2, none⟩ (.bool true)) from (hf1.mono (fun _ _ e => .inl e)).setCell (p := ⟨g, 2, none⟩) (fun _ => .inr rfl) _)
  clear h1 hf1 hs1
  go_wp2
  go_end0
  exact ⟨rfl, HD.out, HFF.out⟩
end Go.Proofs.Ytpebilhdlblgoaa
