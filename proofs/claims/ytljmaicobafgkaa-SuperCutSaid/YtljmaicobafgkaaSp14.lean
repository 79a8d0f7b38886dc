/- Chapter 10, super: the reference's Right of a place that counts. -/
import Derived.Test.YtljmaicobafgkaaSp13
namespace Go.Proofs.Ytljmaicobafgkaa
open Go.RowKit

theorem opn_to_good {s : ByteArray} {at_ : Int} {g : Nat} {b : ByteArray} (h : opn s at_ = some (g, b)) : Good s at_ g b := by
  unfold opn at h
  split at h
  · cases h
  · split at h
    · rename_i hc
      simp only [Option.some.injEq, Prod.mk.injEq] at h
      obtain ⟨e1, e2⟩ := h
      rw [e1, e2] at hc
      refine ⟨hc.2.2.1, hc.2.2.2.1, ?_, hc.2.1, hc.2.2.2.2.symm⟩
      rw [← e2, str_size, List.length_take]
      omega
    · cases h
set_option maxHeartbeats 4000000 in
set_option maxRecDepth 100000 in
theorem right_good {s : ByteArray} {at_ : Int} {g : Nat} {b : ByteArray} (h : Good s at_ g b) (w : World) : Calls Try.prog 101 #[.string s, .int .i64 at_] w fun e w' => e = .returned (.tuple #[.string b, .int .i64 (g : Int), .bool true]) ∧ Below w.heap.size w w' := by
  obtain ⟨i1, i2, i3⟩ := good_inj h
  obtain ⟨h1, h2, h3, h4, h5⟩ := h
  have hsz : s.size = 256 := by rw [h5]; exact pack_len b g h3
  have ho : openL s.data.toList = some (headL g b) := by
    rw [h5]
    unfold packS sealS
    rw [app_list, str_list, pad_list b g h3]
    exact openL_sealed _
  obtain ⟨T, hT⟩ : ∃ T : ByteArray, T = ⟨(headL g b).toArray⟩ := ⟨_, rfl⟩
  have hTl : T.size = 252 := by
    rw [hT, str_size]
    unfold headL
    have e4 : ∀ z : Int, (le4 z).length = 4 := fun _ => rfl
    rw [List.length_append, List.length_append, List.length_append, zL_len, ← size_list, e4, e4]
    omega
  have HOP := hide (show openV s.data.toList = .tuple #[.string T, .int .i64 0] by unfold openV; rw [ho, hT])
  obtain ⟨n, hn⟩ : ∃ n, n = b.size := ⟨_, rfl⟩
  have e1 : T.extract 4 T.size = ⟨((headL g b).drop 4).toArray⟩ := by
    rw [extract_str, hTl, hT, str_list, List.take_of_length_le]
    rw [List.length_drop]
    have : (headL g b).length = 252 := by rw [← hTl, hT]; rfl
    omega
  have C1 := hide (show ∀ W : World, Calls Try.prog 158 #[.string T] W fun e w' => e = .returned (.int .u32 (g : Int)) ∧ ∃ m, w' = W.drewN m from fun W => by
    have := rnumber4 T W (by omega)
    rw [hT, i1] at this
    rw [hT]
    exact this)
  have C2 := hide (show ∀ W : World, Calls Try.prog 158 #[.string (T.extract 4 T.size)] W fun e w' => e = .returned (.int .u32 (n : Int)) ∧ ∃ m, w' = W.drewN m from fun W => by
    have := rnumber4 (T.extract 4 T.size) W (by rw [ByteArray.size_extract]; omega)
    rw [e1, i2] at this
    rw [e1, hn]
    exact this)
  have hsl : ∀ W : World, (Instr.sliceAt 9 (.string T) (some (.int .i64 8)) (some (.int .i64 (8 + (n : Int)))) none).run Try.prog W = .ok (.string b) W := fun W => by
    have e3 : T.extract 8 (8 + n) = b := by
      rw [extract_str, hT, str_list, show 8 + n - 8 = n by omega, hn, i3, str_eta]
    have u5 : (8 : Int) + (n : Int) ≤ (T.size : Int) := by omega
    have u6 : (0 : Int) ≤ 8 + (n : Int) := by omega
    have u7 : (8 + (n : Int)).toNat = 8 + n := by omega
    simp [Instr.sliceAt, Instr.slice, Instr.sliceBounds, Instr.sliceBound, asIntOf, run_underlying Try.underlying9, u5, u6, u7, e3]
    omega
  have HSL := hide hsl
  have hgi : (g : Int) < 2147483648 := by omega
  have hgi0 : (0 : Int) ≤ (g : Int) := by omega
  have hni : (n : Int) ≤ 244 := by omega
  have hdn : decide ((244 : Int) < (n : Int)) = false := decide_eq_false (by omega)
  have HP := hide (show ∀ W : World, Calls Try.prog 92 #[.string b, .int .i64 (g : Int)] W fun e w' => e = .returned (.tuple #[.string s, .int .i64 0]) ∧ Below W.heap.size W w' from fun W => by
    have := rpack_ok b (g : Int) W (by omega) (by omega) h3
    rw [← h5] at this
    exact this)
  have HPL := hide (show ∀ W : World, Calls Try.prog 159 #[.int .i64 (g : Int)] W fun e w' => e = .returned (.int .i64 at_) ∧ W = w' from fun W => by
    have := place159 g W (by omega)
    rw [h4] at this
    exact this)
  have HSZ := hide hsz
  have hT4 : 4 ≤ T.size := by omega
  have hT4i : (4 : Int) ≤ (T.size : Int) := by omega
  have hTi : (T.size : Int) = 252 := by omega
  have hw1 : IntKind.i64.wrap (g : Int) = (g : Int) := by rw [IntKind.wrap_i64]; omega
  have hw2 : IntKind.i64.wrap (n : Int) = (n : Int) := by rw [IntKind.wrap_i64]; omega
  clear i1 i2 i3 h1 h2 h3 h4 h5 ho hT hn e1 hsl hsz hTl
  go_enter Try.func101, Try.ntmps101
  go_wp2_with fail
  refine (rOpen_long s _ (by have := HSZ.out; omega) (by have := HSZ.out; omega)).mono ?_
  rintro e w1 ⟨rfl, hb1⟩
  rw [HOP.out]
  have HB1 := hide hb1
  clear hb1
  go_wp2_with fail
  go_quiet (first | (go_at_call 158; with_reducible refine Calls.quiet_of (C1.out _)) | (go_at_call 158; with_reducible refine Calls.quiet_of (C2.out _)))
  have hb2 : Below w.heap.size w (w1.drewN nq) := HB1.out.trans ⟨rfl, rfl, rfl, Nat.le_refl _, fun _ _ => rfl⟩
  generalize w1.drewN nq = w2 at hb2 ⊢
  clear hw1 hw2 hT4 hT4i hTi
  go_wp2_with fail
  refine (HPL.out _).mono ?_
  rintro e w3 ⟨rfl, rfl⟩
  have hq3 : (at_ != at_) = false := by simp
  go_wp2_with (refine wpList_slice' rfl 9 (.tmp 40) (some (.const (.int .i64 8))) (some (.tmp 42)) rfl rfl rfl rfl (HSL.out _) ?_)
  refine (HP.out _).mono ?_
  rintro e w4 ⟨rfl, hb4⟩
  have HB4 := hide (hb2.trans (hb4.mono hb2.size))
  clear hb2 hb4
  go_wp2_with (refine wpList_slice' rfl 9 (.tmp 48) (some (.const (.int .i64 8))) (some (.tmp 50)) rfl rfl rfl rfl (HSL.out _) ?_)
  go_ret3
  exact ⟨rfl, HB4.out⟩
end Go.Proofs.Ytljmaicobafgkaa
