/- Layer 12: a byte of a message turned (FramesByte). -/
import Derived.Test.YtljmaicobafgkaaByteBuf
import Derived.Test.YtljmaicobafgkaaFrWalks2
namespace Go.Proofs.Ytljmaicobafgkaa
open Go.RowKit

theorem buf_step {B m : Nat} {w w1 w2 : World} {o : ByteArray} {u : Value} (h1 : Below B w w1) (hB : B ≤ w1.heap.size)
    (h2 : Below ((Lib.bytesWorld w1 5 o).setCell ⟨w1.heap.size, m, none⟩ u).heap.size ((Lib.bytesWorld w1 5 o).setCell ⟨w1.heap.size, m, none⟩ u) w2) : Below B w w2 := by
  have hs := ((Below.refl (Lib.bytesWorld w1 5 o).heap.size (Lib.bytesWorld w1 5 o)).size)
  have h3 : B ≤ ((Lib.bytesWorld w1 5 o).setCell ⟨w1.heap.size, m, none⟩ u).heap.size := by
    have := ((Below.refl 0 (Lib.bytesWorld w1 5 o)).setCell (p := ⟨w1.heap.size, m, none⟩) (Nat.zero_le _) u).size
    rw [Lib.bytesWorld_size] at this
    omega
  exact ((h1.trans (buf_below w1 o hB)).setCell (p := ⟨w1.heap.size, m, none⟩) hB u).trans (h2.mono h3)
set_option maxHeartbeats 4000000 in
set_option maxRecDepth 100000 in
theorem byte_err (ha : Awake12) (k f t i : Int) (b : ByteArray) (c : Int) (hE : EncTo k f t i b ⟨#[]⟩ c) (hc : c ≠ 0) (n y : Int) (w : World) :
    Calls Try.prog 10 #[.agg #[.int .i64 k, .int .i64 f, .int .i64 t, .int .i64 i, .string b], .int .i64 n, .int .u8 y] w fun e w' => e = .returned (.bool true) ∧ Below w.heap.size w w' := by
  have hn1 : (c == 0) = false := by simp [hc]
  have hn2 : (c != 0) = true := by simp [hc]
  have HA := hide ha
  have HE := hide hE
  clear ha hE hc
  go_enter Try.func10, Try.ntmps10
  go_wp2_with fail
  refine (HE.out _).mono ?_
  rintro e w1 ⟨rfl, hb1⟩
  have HB1 := hide (below_step (Below.refl _ _) (Nat.le_refl _) hb1)
  have hz1 := HB1.out.size
  clear hb1
  go_wp2_with fail
  refine (HA.out _).mono ?_
  rintro e w5 ⟨rfl, hb5⟩
  go_wp2
  go_ret
  exact ⟨rfl, below_on HB1.out hz1 hb5⟩
set_option maxHeartbeats 4000000 in
set_option maxRecDepth 100000 in
theorem byte_same (ha : Awake12) (k f t i : Int) (b o : ByteArray) (hE : EncTo k f t i b o 0) (he : o.toList.isEmpty = false) (n : Int) (w : World) :
    Calls Try.prog 10 #[.agg #[.int .i64 k, .int .i64 f, .int .i64 t, .int .i64 i, .string b], .int .i64 n, .int .u8 0] w fun e w' => e = .returned (.bool true) ∧ Below w.heap.size w w' := by
  have HA := hide ha
  have HE := hide hE
  clear ha hE
  go_enter Try.func10, Try.ntmps10
  go_wp2_with fail
  refine (HE.out _).mono ?_
  rintro e w1 ⟨rfl, hb1⟩
  have HB1 := hide (below_step (Below.refl _ _) (Nat.le_refl _) hb1)
  have hz1 := HB1.out.size
  clear hb1
  go_wp2_with fail
  refine (HA.out _).mono ?_
  rintro e w5 ⟨rfl, hb5⟩
  go_wp2
  go_ret
  exact ⟨rfl, below_on HB1.out hz1 hb5⟩
set_option maxHeartbeats 4000000 in
set_option maxRecDepth 100000 in
theorem byte_turn (ha : Awake12) (k f t i : Int) (b o : ByteArray) (hE : EncTo k f t i b o 0) (he : o.toList.isEmpty = false) (h63 : o.size ≤ 1073741824) (n y : Int) (hy : y ≠ 0) (m : Nat) (hm : m < o.size)
    (hmod : wrap64 ((IntKind.u64.wrap n).tmod (o.size : Int)) = (m : Int)) (z : UInt8) (hz : bits .xor .u8 ((o.data[m]'hm).toNat : Int) y = (z.toNat : Int)) (hD : DecTo ⟨(o.data.toList.set m z).toArray⟩ 0 0 0 0 ⟨#[]⟩ 4) (w : World) :
    Calls Try.prog 10 #[.agg #[.int .i64 k, .int .i64 f, .int .i64 t, .int .i64 i, .string b], .int .i64 n, .int .u8 y] w fun e w' => e = .returned (.bool true) ∧ Below w.heap.size w w' := by
  have hn3 : (y == 0) = false := by simp [hy]
  have hn4 : (y != 0) = true := by simp [hy]
  have hu : IntKind.u64.wrap (o.size : Int) = (o.size : Int) := by
    show (o.size : Int) % 18446744073709551616 = _
    omega
  have hs0 : o.size ≠ 0 := by omega
  have HA := hide ha
  have HE := hide hE
  have HD := hide hD
  clear ha hE hD
  have hcv := fun W : World => conv_to W o
  have hcl := fun W : World => (buf_new W o).cell (j := m) hm
  have hfz := fun W : World => (buf_new W o).thawed (j := m) hm
  have hbk : ∀ W : World, (convert 77 9 (.slice (some ⟨W.heap.size, 0, none⟩) o.size (grownCap W o.size 0 5))).run Try.prog ((Lib.bytesWorld W 5 o).setCell ⟨W.heap.size, m, none⟩ (.int .u8 (z.toNat : Int))) = .ok (.string ⟨(o.data.toList.set m z).toArray⟩) ((Lib.bytesWorld W 5 o).setCell ⟨W.heap.size, m, none⟩ (.int .u8 (z.toNat : Int))) := fun W => by
    have := ((buf_new W o).set (i := m) z).conv (grownCap W o.size 0 5)
    rw [List.length_set, ← size_list] at this
    exact this
  go_enter Try.func10, Try.ntmps10
  go_wp2_with fail
  refine (HE.out _).mono ?_
  rintro e w1 ⟨rfl, hb1⟩
  have HB1 := hide (below_step (Below.refl _ _) (Nat.le_refl _) hb1)
  have hz1 := HB1.out.size
  clear hb1
  go_wp2_with fail
  refine (HD.out _).mono ?_
  rintro e w2 ⟨rfl, hb2⟩
  have HB2 := hide (buf_step HB1.out hz1 hb2)
  have hz2 := HB2.out.size
  clear hb2
  go_wp2_with fail
  refine (HA.out _).mono ?_
  rintro e w3 ⟨rfl, hb3⟩
  go_wp2
  go_ret
  exact ⟨rfl, below_step HB2.out hz2 hb3⟩
end Go.Proofs.Ytljmaicobafgkaa
