/- A join of 1 texts of this claim: Seg8. Conditions: none of their own. -/
import Derived.Test.YtljmaicobafgkaaQ13
section
/- Chapter 31, segment: parts. -/
namespace Go.Proofs.Ytljmaicobafgkaa
open Go.RowKit

theorem below_drewN {B : Nat} {a w : World} (h : Below B a w) (n : Nat) : Below B a (w.drewN n) := ⟨h.os, h.tape, h.output, h.size, h.block⟩
set_option maxRecDepth 100000 in
theorem parts_short (s : ByteArray) (w : World) (hs : s.size < 4) :
    Calls Try.prog 131 #[.string s] w fun e w' => e = .returned (.tuple #[.string ⟨#[]⟩, .string ⟨#[]⟩, .bool false]) ∧ Below w.heap.size w w' := by
  have h0 : (s.size : Int) - 4 < 0 := by omega
  go_enter Try.func131, Try.ntmps131
  go_wp2
  refine bodyPost_ret (results_tmp3 rfl _ _ _) rfl ⟨rfl, Below.refl _ _⟩
set_option maxHeartbeats 1000000 in
set_option maxRecDepth 100000 in
theorem parts_big (s : ByteArray) (n m : Nat) (a b c d : UInt8) (w : World) (hs : s.size ≤ 4611686018427387904) (hn : s.size = n + 4) (hx : s.extract n s.size = ⟨#[a, b, c, d]⟩) (hm : rd4 a b c d = m) (hk : n < m) :
    Calls Try.prog 131 #[.string s] w fun e w' => e = .returned (.tuple #[.string ⟨#[]⟩, .string ⟨#[]⟩, .bool false]) ∧ Below w.heap.size w w' := by
  have h0 : (s.size : Int) - 4 = (n : Int) := by omega
  have h1 : (n : Int) ≤ (s.size : Int) := by omega
  have h2 : n ≤ s.size := by omega
  have h3 : ¬ (n : Int) < 0 := by omega
  have h4 : (n : Int) < (m : Int) := by omega
  have hv := rd4_or a b c d
  rw [hm] at hv
  have b0 : ((⟨#[a, b, c, d]⟩ : ByteArray)[0]'(by decide : 0 < 4)).toNat = a.toNat := rfl
  have b1 : ((⟨#[a, b, c, d]⟩ : ByteArray)[1]'(by decide : 1 < 4)).toNat = b.toNat := rfl
  have b2 : ((⟨#[a, b, c, d]⟩ : ByteArray)[2]'(by decide : 2 < 4)).toNat = c.toNat := rfl
  have b3 : ((⟨#[a, b, c, d]⟩ : ByteArray)[3]'(by decide : 3 < 4)).toNat = d.toNat := rfl
  have HB := hide (And.intro b0 (And.intro b1 (And.intro b2 (And.intro b3 hv))))
  clear hn b0 b1 b2 b3 hv hm hk
  go_enter Try.func131, Try.ntmps131
  go_wp2_with fail
  go_quiet (skip)
  simp only [HB.out.1, HB.out.2.1, HB.out.2.2.1, HB.out.2.2.2.1, HB.out.2.2.2.2]
  go_wp2
  refine bodyPost_ret (results_tmp3 rfl _ _ _) rfl ⟨rfl, ?_⟩
  exact below_drewN (Below.refl _ _) _
set_option maxHeartbeats 1000000 in
set_option maxRecDepth 100000 in
theorem parts_ok (s : ByteArray) (n m : Nat) (a b c d : UInt8) (w : World) (hs : s.size ≤ 4611686018427387904) (hn : s.size = n + 4) (hx : s.extract n s.size = ⟨#[a, b, c, d]⟩) (hm : rd4 a b c d = m) (hk : m ≤ n) :
    Calls Try.prog 131 #[.string s] w fun e w' => e = .returned (.tuple #[.string (s.extract 0 (n - m)), .string (s.extract (n - m) n), .bool true]) ∧ Below w.heap.size w w' := by
  have h0 : (s.size : Int) - 4 = (n : Int) := by omega
  have h1 : (n : Int) ≤ (s.size : Int) := by omega
  have h2 : n ≤ s.size := by omega
  have h3 : ¬ (n : Int) < 0 := by omega
  have h4 : ¬ (n : Int) < (m : Int) := by omega
  obtain ⟨r, hr⟩ : ∃ r, r = n - m := ⟨_, rfl⟩
  rw [← hr]
  have h5 : (n : Int) - (m : Int) = (r : Int) := by omega
  have h6 : (r : Int) ≤ (n : Int) := by omega
  have h7 : (r : Int) ≤ (s.size : Int) := by omega
  have h8 : r ≤ s.size := by omega
  have h9 : r ≤ n := by omega
  have hv := rd4_or a b c d
  rw [hm] at hv
  have b0 : ((⟨#[a, b, c, d]⟩ : ByteArray)[0]'(by decide : 0 < 4)).toNat = a.toNat := rfl
  have b1 : ((⟨#[a, b, c, d]⟩ : ByteArray)[1]'(by decide : 1 < 4)).toNat = b.toNat := rfl
  have b2 : ((⟨#[a, b, c, d]⟩ : ByteArray)[2]'(by decide : 2 < 4)).toNat = c.toNat := rfl
  have b3 : ((⟨#[a, b, c, d]⟩ : ByteArray)[3]'(by decide : 3 < 4)).toNat = d.toNat := rfl
  have HB := hide (And.intro b0 (And.intro b1 (And.intro b2 (And.intro b3 hv))))
  clear hn b0 b1 b2 b3 hv hm hk hr
  go_enter Try.func131, Try.ntmps131
  go_wp2_with fail
  go_quiet (skip)
  simp only [HB.out.1, HB.out.2.1, HB.out.2.2.1, HB.out.2.2.2.1, HB.out.2.2.2.2]
  go_wp2_with fail
  go_quiet (skip)
  go_wp2
  refine bodyPost_ret (results_tmp3 rfl _ _ _) rfl ⟨rfl, ?_⟩
  exact below_drewN (below_drewN (Below.refl _ _) _) _
end Go.Proofs.Ytljmaicobafgkaa
end
