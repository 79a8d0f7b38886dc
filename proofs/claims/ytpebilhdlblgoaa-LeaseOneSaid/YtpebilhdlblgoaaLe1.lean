/- Chapter 27, lease: leases in memory; New, Grant. -/
import Derived.Test.YtpebilhdlblgoaaAx
import Derived.Test.YtpebilhdlblgoaaMp2
namespace Go.Proofs.Ytpebilhdlblgoaa
open Go.RowKit

structure Lse where
  ino : Int
  cli : Int
  til : Int
  tok : Int
def Lse.cells (x : Lse) : Array Value := #[.int .i64 x.ino, .int .i64 x.cli, .int .i64 x.til, .int .i64 x.tok]
def noL : Lse := ⟨0, 0, 0, 0⟩
/-- Maps of numbers to leases. -/
def kLe : MK Try.prog Lse where
  m := 60
  k := 3
  e := 30
  val x := .agg x.cells
  z := .agg noL.cells
  und := Try.underlying60
  key := Try.underlying3
  zero w := Try.zeroValue30 w
/-- Leases: each inode's, the greatest token. -/
structure Les where
  f : Int → Option Lse
  tok : Int
def LV (w : World) (g c : Nat) (S : Les) : Prop := w.heap[g]? = some (.cells #[.map (some c), .int .i64 S.tok] 62 (0, 0)) ∧ kLe.mp w c S.f
theorem LV.below {w w' : World} {g c : Nat} {S : Les} (h : LV w g c S) (hb : Below w.heap.size w w') : LV w' g c S := ⟨obj_below h.1 hb, MK.mp_below h.2 hb⟩
theorem LV.gc {w : World} {g c : Nat} {S : Les} (h : LV w g c S) : g ≠ c := by
  obtain ⟨es, k, h3⟩ := MK.mp_obj h.2
  rintro rfl
  rw [h.1] at h3
  cases h3
theorem LV.lt {w : World} {g c : Nat} {S : Les} (h : LV w g c S) : g < w.heap.size ∧ c < w.heap.size := ⟨obj_lt h.1, MK.mp_lt h.2⟩
set_option maxRecDepth 100000 in
theorem lnew_any (w : World) : Calls Try.prog 11 #[] w fun e w' => ∃ g c, e = .returned (.pointer (some ⟨g, 0, none⟩)) ∧ LV w' g c ⟨fun _ => none, 0⟩ ∧ Below w.heap.size w w' ∧ w.heap.size ≤ g ∧ w.heap.size ≤ c := by
  have hmm : ∀ W : World, (Instr.makeMap 60 none).run Try.prog W = .ok (.map (some W.heap.size)) (W.alloc (.map #[] 0)) := fun W => run_makeMap (P := Try.prog) 60 W
  have hs : (w.alloc (.map #[] 0)).heap.size = w.heap.size + 1 := by simp
  have HD := hide (show LV ((w.alloc (.map #[] 0)).alloc (.cells #[.map (some w.heap.size), .int .i64 0] 62)) (w.heap.size + 1) w.heap.size ⟨fun _ => none, 0⟩ from by
    refine ⟨?_, MK.mp_new (clock := 0) (obj_alloc (obj_new w _) _)⟩
    have := obj_new (w.alloc (.map #[] 0)) (.cells #[.map (some w.heap.size), .int .i64 0] 62)
    rw [hs] at this
    exact this)
  have HB := hide (show Below w.heap.size w ((w.alloc (.map #[] 0)).alloc (.cells #[.map (some w.heap.size), .int .i64 0] 62)) from ((Below.refl _ _).alloc (Nat.le_refl _) _).alloc (by rw [hs]; omega) _)
  go_enter Try.func11, Try.ntmps11
  go_wp2
  go_ret
  exact ⟨w.heap.size + 1, w.heap.size, rfl, HD.out, HB.out, by omega, by omega⟩
theorem info30 : (Try.prog.info? 30).map (·.size) = some 4 := by kernel_rfl
def badG (i cl nw tk : Int) : Prop := i < 1 ∨ 256 ≤ i ∨ cl < 0 ∨ 16 ≤ cl ∨ nw < 0 ∨ 1099511627776 < nw ∨ tk < 1 ∨ 1000000 < tk
set_option maxHeartbeats 4000000 in
set_option maxRecDepth 100000 in
theorem grant_nil (i cl nw tk : Int) (w : World) : Calls Try.prog 12 #[.pointer none, .int .i64 i, .int .i64 cl, .int .i64 nw, .int .i64 tk] w fun e w' => e = .returned (.tuple #[.agg noL.cells, .int .i64 1]) ∧ Below w.heap.size w w' := by
  have HO := hide (obj_new w (.cells #[.int .i64 0, .int .i64 0, .int .i64 0, .int .i64 0] 30))
  have HB := hide ((Below.refl w.heap.size w).alloc (Nat.le_refl _) (.cells #[.int .i64 0, .int .i64 0, .int .i64 0, .int .i64 0] 30))
  go_enter Try.func12, Try.ntmps12
  go_wp2
  refine bodyPost_ret (res_ct rfl _ _ w.heap.size 30 _ (0, 0) _ rfl HO.out Try.underlying30 rfl info30) rfl ?_
  exact ⟨rfl, HB.out⟩
set_option maxHeartbeats 8000000 in
set_option maxRecDepth 100000 in
theorem grant_bad {g : Nat} (i cl nw tk : Int) (w : World) (h : badG i cl nw tk) : Calls Try.prog 12 #[.pointer (some ⟨g, 0, none⟩), .int .i64 i, .int .i64 cl, .int .i64 nw, .int .i64 tk] w fun e w' => e = .returned (.tuple #[.agg noL.cells, .int .i64 1]) ∧ Below w.heap.size w w' := by
  have HO := hide (obj_new w (.cells #[.int .i64 0, .int .i64 0, .int .i64 0, .int .i64 0] 30))
  have HB := hide ((Below.refl w.heap.size w).alloc (Nat.le_refl _) (.cells #[.int .i64 0, .int .i64 0, .int .i64 0, .int .i64 0] 30))
  have HH := hide h
  clear h
  by_cases h0 : i < 1
  · go_enter Try.func12, Try.ntmps12
    go_wp2
    refine bodyPost_ret (res_ct rfl _ _ w.heap.size 30 _ (0, 0) _ rfl HO.out Try.underlying30 rfl info30) rfl ?_
    exact ⟨rfl, HB.out⟩
  by_cases h1 : 256 ≤ i
  · go_enter Try.func12, Try.ntmps12
    go_wp2
    refine bodyPost_ret (res_ct rfl _ _ w.heap.size 30 _ (0, 0) _ rfl HO.out Try.underlying30 rfl info30) rfl ?_
    exact ⟨rfl, HB.out⟩
  by_cases h2 : cl < 0
  · go_enter Try.func12, Try.ntmps12
    go_wp2
    refine bodyPost_ret (res_ct rfl _ _ w.heap.size 30 _ (0, 0) _ rfl HO.out Try.underlying30 rfl info30) rfl ?_
    exact ⟨rfl, HB.out⟩
  by_cases h3 : 16 ≤ cl
  · go_enter Try.func12, Try.ntmps12
    go_wp2
    refine bodyPost_ret (res_ct rfl _ _ w.heap.size 30 _ (0, 0) _ rfl HO.out Try.underlying30 rfl info30) rfl ?_
    exact ⟨rfl, HB.out⟩
  by_cases h4 : nw < 0
  · go_enter Try.func12, Try.ntmps12
    go_wp2
    refine bodyPost_ret (res_ct rfl _ _ w.heap.size 30 _ (0, 0) _ rfl HO.out Try.underlying30 rfl info30) rfl ?_
    exact ⟨rfl, HB.out⟩
  by_cases h5 : 1099511627776 < nw
  · go_enter Try.func12, Try.ntmps12
    go_wp2
    refine bodyPost_ret (res_ct rfl _ _ w.heap.size 30 _ (0, 0) _ rfl HO.out Try.underlying30 rfl info30) rfl ?_
    exact ⟨rfl, HB.out⟩
  by_cases h6 : tk < 1
  · go_enter Try.func12, Try.ntmps12
    go_wp2
    refine bodyPost_ret (res_ct rfl _ _ w.heap.size 30 _ (0, 0) _ rfl HO.out Try.underlying30 rfl info30) rfl ?_
    exact ⟨rfl, HB.out⟩
  by_cases h7 : 1000000 < tk
  · go_enter Try.func12, Try.ntmps12
    go_wp2
    refine bodyPost_ret (res_ct rfl _ _ w.heap.size 30 _ (0, 0) _ rfl HO.out Try.underlying30 rfl info30) rfl ?_
    exact ⟨rfl, HB.out⟩
  exfalso
  have := HH.out
  unfold badG at this
  omega
end Go.Proofs.Ytpebilhdlblgoaa
