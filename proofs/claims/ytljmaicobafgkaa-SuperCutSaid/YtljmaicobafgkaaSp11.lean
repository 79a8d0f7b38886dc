/- Chapter 10, super: the chapter's example. -/
import Derived.Test.YtljmaicobafgkaaSp10
import Derived.Test.YtljmaicobafgkaaSp2
namespace Go.Proofs.Ytljmaicobafgkaa
open Go.RowKit

def txA : ByteArray := ⟨#[97]⟩
def txB : ByteArray := ⟨#[98]⟩
set_option maxHeartbeats 4000000 in
set_option maxRecDepth 100000 in
theorem awake10 (w : World) : Calls Try.prog 94 #[] w fun e w' => e = .returned (.bool true) ∧ Below w.heap.size w w' := by
  obtain ⟨D0, hD0⟩ : ∃ D, D = newD 8 := ⟨_, rfl⟩
  have k0 : Dok D0 := by rw [hD0]; exact newD_ok 8
  have l0 : D0.now.length = 8 := by rw [hD0]; rfl
  have t0 : D0.lost = false := by rw [hD0]; rfl
  have n0 : newest D0 = none := by rw [hD0]; exact new_none
  obtain ⟨D1, hD1⟩ : ∃ D, D = D0.next txA := ⟨_, rfl⟩
  have k1 : Dok D1 := by rw [hD1]; exact next_ok k0 l0 txA (by decide)
  have l1 : D1.now.length = 8 := by rw [hD1, next_len]; exact l0
  have t1 : D1.lost = false := by rw [hD1, next_lost]; exact t0
  have n1 : newest D1 = some (1, txA) := by
    have := newest_next l0 txA (by decide) (by rw [n0]; decide)
    rw [n0] at this
    rw [hD1]
    exact this
  obtain ⟨D2, hD2⟩ : ∃ D, D = D1.next txB := ⟨_, rfl⟩
  have k2 : Dok D2 := by rw [hD2]; exact next_ok k1 l1 txB (by decide)
  have l2 : D2.now.length = 8 := by rw [hD2, next_len]; exact l1
  have t2 : D2.lost = false := by rw [hD2, next_lost]; exact t1
  have n2 : newest D2 = some (2, txB) := by
    have := newest_next l1 txB (by decide) (by rw [n1]; decide)
    rw [n1] at this
    rw [hD2]
    exact this
  have HN := hide (show ∀ W : World, Calls Try.prog 95 #[.int .i64 8] W fun e w' => ∃ g c r, e = .returned (.pointer (some ⟨g, 0, none⟩)) ∧ DV w' g c (.slice (some ⟨r, 0, none⟩) 8 8) D0 ∧ Below W.heap.size W w' ∧ W.heap.size ≤ g ∧ W.heap.size ≤ c ∧ W.heap.size ≤ r from fun W => by rw [hD0]; exact dnew_any 8 W)
  have HR0 := hide (show ∀ (W : World) (g c r : Nat), DV W g c (.slice (some ⟨r, 0, none⟩) 8 8) D0 → Calls Try.prog 98 #[.pointer (some ⟨g, 0, none⟩)] W fun e w' => e = .returned (.tuple #[.string ⟨#[]⟩, .int .i64 0, .int .i64 7]) ∧ Below W.heap.size W w' from fun W g c r h => by
    have := sread_any h k0 t0 l0
    rw [n0] at this
    exact this)
  have HW1 := hide (show ∀ (W : World) (g c r : Nat), DV W g c (.slice (some ⟨r, 0, none⟩) 8 8) D0 → Calls Try.prog 96 #[.pointer (some ⟨g, 0, none⟩), .string ⟨#[97]⟩] W fun e w' => e = .returned (.int .i64 0) ∧ DV w' g c (.slice (some ⟨r, 0, none⟩) 8 8) D1 ∧ Fr (fun j => j = c ∨ j = r) W w' from fun W g c r h => by
    rw [hD1]
    exact swrite_any h k0 t0 l0 txA (by decide) (by rw [n0]; decide))
  have HW2 := hide (show ∀ (W : World) (g c r : Nat), DV W g c (.slice (some ⟨r, 0, none⟩) 8 8) D1 → Calls Try.prog 96 #[.pointer (some ⟨g, 0, none⟩), .string ⟨#[98]⟩] W fun e w' => e = .returned (.int .i64 0) ∧ DV w' g c (.slice (some ⟨r, 0, none⟩) 8 8) D2 ∧ Fr (fun j => j = c ∨ j = r) W w' from fun W g c r h => by
    rw [hD2]
    exact swrite_any h k1 t1 l1 txB (by decide) (by rw [n1]; decide))
  have HR2 := hide (show ∀ (W : World) (g c r : Nat), DV W g c (.slice (some ⟨r, 0, none⟩) 8 8) D2 → Calls Try.prog 98 #[.pointer (some ⟨g, 0, none⟩)] W fun e w' => e = .returned (.tuple #[.string ⟨#[98]⟩, .int .i64 2, .int .i64 0]) ∧ Below W.heap.size W w' from fun W g c r h => by
    have := sread_any h k2 t2 l2
    rw [n2] at this
    exact this)
  have HP := hide (show ∃ p : ByteArray, (p.size : Int) = 256 ∧ ∀ W : World, Calls Try.prog 91 #[.string ⟨#[97]⟩, .int .i64 1] W fun e w' => e = .returned (.tuple #[.string p, .int .i64 0]) ∧ Below W.heap.size W w' from ⟨packS txA 1, by rw [pack_len txA 1 (by decide)]; rfl, fun W => pack_ok txA 1 W (by decide) (by decide) (by decide)⟩)
  clear hD0 k0 l0 t0 n0 hD1 k1 l1 t1 n1 hD2 k2 l2 t2 n2
  obtain ⟨p, hp, hpp⟩ := HP.out
  have HPP := hide hpp
  clear hpp
  go_enter Try.func94, Try.ntmps94
  go_wp2_with fail
  refine (HN.out _).mono ?_
  rintro e w1 ⟨g, c, r, rfl, hv1, hb1, hg, hc, hr⟩
  go_wp2_with fail
  refine (HR0.out _ g c r hv1).mono ?_
  rintro e w2 ⟨rfl, hb2⟩
  have hv2 := hv1.below hb2
  have hB2 := hb1.trans (hb2.mono hb1.size)
  clear hv1 hb1 hb2
  go_wp2_with fail
  refine (HW1.out _ g c r hv2).mono ?_
  rintro e w3 ⟨rfl, hv3, hf3⟩
  have hB3 := hB2.trans (hf3.below _ hB2.size (fun k hk e => by omega))
  clear hv2 hf3
  go_wp2_with fail
  refine (HW2.out _ g c r hv3).mono ?_
  rintro e w4 ⟨rfl, hv4, hf4⟩
  have hB4 := hB3.trans (hf4.below _ hB3.size (fun k hk e => by omega))
  clear hv3 hf4
  go_wp2_with fail
  refine (HR2.out _ g c r hv4).mono ?_
  rintro e w5 ⟨rfl, hb5⟩
  have hB5 := hB4.trans (hb5.mono hB4.size)
  clear hb5 hv4
  go_wp2_with fail
  refine (HPP.out _).mono ?_
  rintro e w6 ⟨rfl, hb6⟩
  have HB6 := hide (hB5.trans (hb6.mono hB5.size))
  clear hb6 hB2 hB3 hB4 hB5
  go_wp2_with fail
  refine (sread_nil _).mono ?_
  rintro e w7 ⟨rfl, rfl⟩
  go_wp2_with fail
  refine (room_any _).mono ?_
  rintro e w8 ⟨rfl, rfl⟩
  go_wp2
  go_ret
  exact ⟨rfl, HB6.out⟩
end Go.Proofs.Ytljmaicobafgkaa
