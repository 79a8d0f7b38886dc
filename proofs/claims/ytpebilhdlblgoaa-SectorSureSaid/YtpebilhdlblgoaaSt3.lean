/- Chapter 09, sector: the walks of SectorNone and SectorTorn. -/
import Derived.Test.YtpebilhdlblgoaaSt2
namespace Go.Proofs.Ytpebilhdlblgoaa
open Go.RowKit

set_option maxRecDepth 100000 in
theorem dwrite_nilM (a : Int) (s : ByteArray) (w : World) (hs2 : s.size ≤ 9223372036854775807) : Calls Try.prog 21 #[.pointer none, .int .i64 a, .string s] w fun e w' => e = .returned (.int .i64 1) ∧ w = w' := by
  have h0 : (0 : Int) ≤ (s.size : Int) := by omega
  have h1 : (s.size : Int) ≤ 9223372036854775807 := by omega
  go_enter Try.func21, Try.ntmps21
  go_wp2_with fail
  refine (dcheck_nil _ _ _ _).mono ?_
  rintro e w1 ⟨rfl, rfl⟩
  go_wp2
  go_ret
  exact ⟨rfl, rfl⟩
set_option maxHeartbeats 4000000 in
set_option maxRecDepth 100000 in
theorem walk_sectorNone (kd at_ n : Int) (s : ByteArray) (keep : Int) (w : World) (_h0 : (Lit.int .i64 kd).wf = true) (_h1 : (Lit.int .i64 at_).wf = true) (_h2 : (Lit.int .i64 n).wf = true) (hs : s.size ≤ maxLen) (_h4 : (Lit.int .u64 keep).wf = true) :
    Calls Try.prog 9 #[.agg #[.int .i64 kd, .int .i64 at_, .int .i64 n, .string s, .int .u64 keep]] w fun e w' => e = .returned (.bool true) ∧ Below w.heap.size w w' := by
  have HW := hide (show ∀ W : World, Calls Try.prog 21 #[.pointer none, .int .i64 at_, .string s] W fun e w' => e = .returned (.int .i64 1) ∧ W = w' from fun W => dwrite_nilM at_ s W (by simp only [maxLen] at hs; omega))
  have HB := hide ((Below.refl w.heap.size w).alloc (Nat.le_refl _) (.cells #[.int .i64 kd, .int .i64 at_, .int .i64 n, .string s, .int .u64 keep] 48))
  clear hs
  go_enter Try.func9, Try.ntmps9
  go_wp2_with fail
  refine (flush_nil _).mono ?_
  rintro e w1 ⟨rfl, rfl⟩
  go_wp2_with fail
  refine (crash_nil _ _ _).mono ?_
  rintro e w1 ⟨rfl, rfl⟩
  go_wp2_with fail
  refine (lose_nil _).mono ?_
  rintro e w1 ⟨rfl, rfl⟩
  go_wp2_with fail
  refine (dread_nil _ _ _).mono ?_
  rintro e w1 ⟨rfl, rfl⟩
  go_wp2_with fail
  refine (HW.out _).mono ?_
  rintro e w1 ⟨rfl, rfl⟩
  go_wp2_with fail
  refine (sectors_nil _).mono ?_
  rintro e w1 ⟨rfl, rfl⟩
  go_wp2_with fail
  refine (dloose_nil _).mono ?_
  rintro e w1 ⟨rfl, rfl⟩
  go_wp2_with fail
  refine (awake09 _).mono ?_
  rintro e w2 ⟨rfl, hb2⟩
  have HB2 := hide (HB.out.trans (hb2.mono HB.out.size))
  clear hb2
  go_wp2
  go_ret
  exact ⟨rfl, HB2.out⟩
end Go.Proofs.Ytpebilhdlblgoaa
