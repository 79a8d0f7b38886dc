/- SegmentNone: the walk. -/
import Derived.Test.YtljmaicobafgkaaSeg15
namespace Go.Proofs.Ytljmaicobafgkaa
open Go.RowKit

set_option maxHeartbeats 4000000 in
set_option maxRecDepth 1000000 in
theorem walk_segmentNone (k i b : Int) (s : ByteArray) (w : World) (_hk : (Lit.int .i64 k).wf = true) (_hi : (Lit.int .i64 i).wf = true) (_hb : (Lit.int .i64 b).wf = true) (_hs : s.size ≤ maxLen) :
    Calls Try.prog 14 #[.agg #[.int .i64 k, .int .i64 i, .int .i64 b, .string s]] w fun e w' => e = .returned (.bool true) ∧ Below w.heap.size w w' := by
  go_enter Try.func14, Try.ntmps14
  go_wp2_with fail
  refine (add_nil k i b s _).mono ?_
  rintro e w1 ⟨rfl, hb1⟩
  unfold entZ
  have HB1 := hide (((Below.refl _ w).alloc (Nat.le_refl _) _).trans (hb1.mono (by simp)))
  clear hb1
  go_wp2_with fail
  refine (room_nil _).mono ?_
  rintro e w2 ⟨rfl, hb2⟩
  have HB2 := hide ((HB1.out.alloc HB1.out.size _).trans (hb2.mono (by have := HB1.out.size; simp; omega)))
  clear hb2
  go_wp2_with fail
  refine (len_nil _).mono ?_
  rintro e w3 ⟨rfl, hb3⟩
  have HB3 := hide (HB2.out.trans (hb3.mono HB2.out.size))
  clear hb3
  go_wp2_with fail
  refine (segSeal_nil _).mono ?_
  rintro e w4 ⟨rfl, hb4⟩
  have HB4 := hide (HB3.out.trans (hb4.mono HB3.out.size))
  clear hb4
  go_wp2_with fail
  refine (awake31 _).mono ?_
  rintro e w5 ⟨rfl, hb5⟩
  have HB5 := hide (HB4.out.trans (hb5.mono HB4.out.size))
  clear hb5
  go_wp2
  go_ret
  exact ⟨rfl, HB5.out⟩
end Go.Proofs.Ytljmaicobafgkaa
