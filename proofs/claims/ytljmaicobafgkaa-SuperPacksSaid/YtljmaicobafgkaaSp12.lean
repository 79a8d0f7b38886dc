/- Chapter 10, super: the walk of SuperPacks. -/
import Derived.Test.YtljmaicobafgkaaSp11
namespace Go.Proofs.Ytljmaicobafgkaa
open Go.RowKit

theorem packs_both (s : ByteArray) (g : Int) : ∃ (p : ByteArray) (ec : Int), (∀ W : World, Calls Try.prog 91 #[.string s, .int .i64 g] W fun e w' => e = .returned (.tuple #[.string p, .int .i64 ec]) ∧ Below W.heap.size W w') ∧
    (∀ W : World, Calls Try.prog 92 #[.string s, .int .i64 g] W fun e w' => e = .returned (.tuple #[.string p, .int .i64 ec]) ∧ Below W.heap.size W w') := by
  by_cases h : 1 ≤ g ∧ g < 2147483648
  · by_cases hs : s.size ≤ 244
    · exact ⟨_, _, fun W => pack_ok s g W h.1 h.2 hs, fun W => rpack_ok s g W h.1 h.2 hs⟩
    · exact ⟨_, _, fun W => (pack_size s g W h.1 h.2 (by omega)).mono fun e w' ⟨h1, h2⟩ => ⟨h1, h2 ▸ Below.refl _ _⟩, fun W => (rpack_size s g W h.1 h.2 (by omega)).mono fun e w' ⟨h1, h2⟩ => ⟨h1, h2 ▸ Below.refl _ _⟩⟩
  · exact ⟨_, _, fun W => (pack_arg s g W h).mono fun e w' ⟨h1, h2⟩ => ⟨h1, h2 ▸ Below.refl _ _⟩, fun W => (rpack_arg s g W h).mono fun e w' ⟨h1, h2⟩ => ⟨h1, h2 ▸ Below.refl _ _⟩⟩
set_option maxHeartbeats 4000000 in
set_option maxRecDepth 100000 in
theorem walk_superPacks (s : ByteArray) (g : Int) (w : World) (_hs : s.size ≤ 140737488351232) (_hw : (Lit.int .i64 g).wf = true) :
    Calls Try.prog 22 #[.string s, .int .i64 g] w fun e w' => e = .returned (.bool true) ∧ Below w.heap.size w w' := by
  obtain ⟨p, ec, h1, h2⟩ := packs_both s g
  have H1 := hide h1
  have H2 := hide h2
  clear h1 h2
  go_enter Try.func22, Try.ntmps22
  go_wp2_with fail
  refine (H1.out _).mono ?_
  rintro e w1 ⟨rfl, hb1⟩
  go_wp2_with fail
  refine (H2.out _).mono ?_
  rintro e w2 ⟨rfl, hb2⟩
  have hB2 := hb1.trans (hb2.mono hb1.size)
  clear hb1 hb2
  go_wp2_with fail
  refine (room_any _).mono ?_
  rintro e w3 ⟨rfl, rfl⟩
  go_wp2_with fail
  refine (awake10 _).mono ?_
  rintro e w4 ⟨rfl, hb4⟩
  have HB4 := hide (hB2.trans (hb4.mono hB2.size))
  clear hb4 hB2
  go_wp2
  go_ret
  exact ⟨rfl, HB4.out⟩
end Go.Proofs.Ytljmaicobafgkaa
