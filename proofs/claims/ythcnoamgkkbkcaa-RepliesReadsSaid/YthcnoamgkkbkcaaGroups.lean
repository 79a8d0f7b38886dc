/- The walk of codec.groups. -/
import Derived.Test.YthcnoamgkkbkcaaZig
namespace Go.Proofs.Ythcnoamgkkbkcaa
open Go.RowKit

theorem bits_u64 (op : BinOp) (a b : Int) : 0 ≤ bits op .u64 a b ∧ bits op .u64 a b < 18446744073709551616 := by
  have h : ∀ x : Int, 0 ≤ IntKind.u64.wrap x ∧ IntKind.u64.wrap x < 18446744073709551616 := fun x => by
    simp only [IntKind.wrap]
    exact ⟨Int.emod_nonneg _ (by decide), Int.emod_lt_of_pos _ (by decide)⟩
  unfold bits
  split <;> exact h _
theorem wr_byte (b : UInt8) : IntKind.u64.wrap (b.toNat : Int) = (b.toNat : Int) := by
  have := b.toNat_lt
  show (b.toNat : Int) % 18446744073709551616 = _
  omega
/-- One group more. -/
def gStep (u : Int) (b : UInt8) (k : Nat) : Int := bits .or .u64 u (IntKind.u64.wrap (bits .and .u64 (IntKind.u64.wrap (b.toNat : Int)) 127 * 2 ^ (7 * k)))
/-- The number of groups, from the k-th on, as the code reckons it. -/
def grpR : List UInt8 → Nat → Int → Option (Int × Nat)
  | [], _, _ => none
  | b :: r, k, u => if 10 ≤ k then none else if 128 ≤ b.toNat then grpR r (k + 1) (gStep u b k) else if (0 < k ∧ b.toNat = 0) ∨ (k = 9 ∧ 1 < b.toNat) then none else some (gStep u b k, k + 1)
def grpV (o : Option (Int × Nat)) : Value :=
  match o with
  | none => .tuple #[.int .u64 0, .int .i64 0]
  | some (u, n) => .tuple #[.int .u64 u, .int .i64 n]
def GrpS (s : ByteArray) (q i : Value) : Prop :=
  ∃ (k : Nat) (u : Int), i = .int .i64 k ∧ q = .int .u64 u ∧ k ≤ s.size ∧ k ≤ 10 ∧ 0 ≤ u ∧ u < 18446744073709551616 ∧ Hid (grpR (s.data.toList.drop k) k u = grpR s.data.toList 0 0)
theorem drop_at (s : ByteArray) (k : Nat) (h : k < s.size) : s.data.toList.drop k = s[k] :: s.data.toList.drop (k + 1) := by
  rw [List.drop_eq_getElem_cons (by simpa using h)]
  rfl
theorem grp_go {b : UInt8} {r : List UInt8} {k : Nat} {u : Int} (hk : k < 10) (hb : 128 ≤ IntKind.u64.wrap (b.toNat : Int)) : grpR (b :: r) k u = grpR r (k + 1) (gStep u b k) := by
  rw [wr_byte] at hb
  rw [grpR, if_neg (by omega), if_pos (by omega)]
theorem grp_bad {b : UInt8} {r : List UInt8} {k : Nat} {u : Int} (h : (0 < k ∧ IntKind.u64.wrap (b.toNat : Int) = 0) ∨ (k = 9 ∧ 1 < IntKind.u64.wrap (b.toNat : Int))) (hb : IntKind.u64.wrap (b.toNat : Int) < 128) : grpR (b :: r) k u = none := by
  rw [wr_byte] at h hb
  by_cases hk : 10 ≤ k
  · rw [grpR, if_pos hk]
  · rw [grpR, if_neg hk, if_neg (by omega), if_pos (by omega)]
theorem grp_end {b : UInt8} {r : List UInt8} {k : Nat} {u : Int} (hk : k < 10) (h1 : 0 < k → IntKind.u64.wrap (b.toNat : Int) ≠ 0) (h2 : k = 9 → IntKind.u64.wrap (b.toNat : Int) ≤ 1) (hb : IntKind.u64.wrap (b.toNat : Int) < 128) : grpR (b :: r) k u = some (gStep u b k, k + 1) := by
  rw [wr_byte] at h1 h2 hb
  have hn : ¬ ((0 < k ∧ b.toNat = 0) ∨ (k = 9 ∧ 1 < b.toNat)) := by
    rintro (⟨a, c⟩ | ⟨a, c⟩)
    · exact h1 a (by omega)
    · have := h2 a
      omega
  rw [grpR, if_neg (by omega), if_neg (by omega), if_neg hn]
theorem grp_over {l : List UInt8} {u : Int} : grpR l 10 u = none := by
  cases l with
  | nil => rfl
  | cons b r => rw [grpR, if_pos (by omega)]
theorem iret2 {a b : Int} {n m : Int} (h : a = b) (h' : n = m) : Ending.returned (.tuple #[.int .u64 a, .int .i64 n]) = Ending.returned (.tuple #[.int .u64 b, .int .i64 m]) := by rw [h, h']

set_option maxRecDepth 100000 in
theorem groups_short (s : ByteArray) (w : World) (hs : s.size ≤ 9223372036854775807) (h10 : s.size ≤ 10) :
    Calls Try.prog 94 #[.string s] w fun e w' => e = .returned (grpV (grpR s.data.toList 0 0)) ∧ w = w' := by
  go_enter Try.func94, Try.ntmps94
  go_wp2
  go_loop [4, 5, 6, 10] (fun q _ _ i => GrpS s q i) (fun _ _ _ i => 10 - (intOf i).toNat)
  case atStart => exact ⟨0, 0, rfl, rfl, by omega, by omega, by omega, by omega, by exact rfl⟩
  case round =>
    obtain ⟨k, u, rfl, rfl, hk, hk2, hu0, hu1, HK⟩ := hrel
    by_cases hlt : k < s.size
    · have hks : k < s.size := by omega
      have hd := hide (drop_at s k hks)
      go_wp2
      · have h1 : 128 ≤ IntKind.u64.wrap (s[k].toNat : Int) := by assumption
        go_round
        case rel => exact ⟨k + 1, gStep u s[k] k, by go_num, rfl, by omega, by omega, (bits_u64 _ _ _).1, (bits_u64 _ _ _).2, by
          have := HK.out
          rw [hd.out, grp_go (by omega) h1] at this
          exact this⟩
        case measure => simp [intOf]; omega
      · have h1 : IntKind.u64.wrap (s[k].toNat : Int) < 128 := by assumption
        have h2 : IntKind.u64.wrap (s[k].toNat : Int) = 0 := by assumption
        have h3 : 0 < k := by assumption
        go_ret2
        refine ⟨?_, rfl⟩
        rw [← HK.out, hd.out, grp_bad (.inl ⟨h3, h2⟩) h1]
        rfl
      · have h1 : IntKind.u64.wrap (s[k].toNat : Int) < 128 := by assumption
        have h2 : ¬ IntKind.u64.wrap (s[k].toNat : Int) = 0 := by assumption
        have h3 : (IntKind.u64.wrap (s[k].toNat : Int) == 0) = true ∨ 1 < IntKind.u64.wrap (s[k].toNat : Int) := by assumption
        have h4 : (k : Int) = 9 := by assumption
        have h5 : 1 < IntKind.u64.wrap (s[k].toNat : Int) := by
          rcases h3 with h3 | h3
          · exact absurd (by simpa using h3) h2
          · exact h3
        go_ret2
        refine ⟨?_, rfl⟩
        rw [← HK.out, hd.out, grp_bad (.inr ⟨by omega, h5⟩) h1]
        rfl
      · have h1 : IntKind.u64.wrap (s[k].toNat : Int) < 128 := by assumption
        have h2 : ¬ IntKind.u64.wrap (s[k].toNat : Int) = 0 := by assumption
        have h3 : (IntKind.u64.wrap (s[k].toNat : Int) == 0) = false ∧ IntKind.u64.wrap (s[k].toNat : Int) ≤ 1 := by assumption
        have h4 : (k : Int) = 9 := by assumption
        go_ret2
        refine ⟨?_, rfl⟩
        rw [← HK.out, hd.out, grp_end (by omega) (fun _ => h2) (fun _ => h3.2) h1]
        exact iret2 rfl (by omega)
      · have h1 : IntKind.u64.wrap (s[k].toNat : Int) < 128 := by assumption
        have h2 : ¬ IntKind.u64.wrap (s[k].toNat : Int) = 0 := by assumption
        have h4 : ¬ (k : Int) = 9 := by assumption
        go_ret2
        refine ⟨?_, rfl⟩
        rw [← HK.out, hd.out, grp_end (by omega) (fun _ => h2) (fun h => absurd (by omega) h4) h1]
        exact iret2 rfl (by omega)
      · have h1 : IntKind.u64.wrap (s[k].toNat : Int) < 128 := by assumption
        have h2 : ¬ 0 < k := by assumption
        have h4 : ¬ (k : Int) = 9 := by assumption
        go_ret2
        refine ⟨?_, rfl⟩
        rw [← HK.out, hd.out, grp_end (by omega) (fun h => absurd h h2) (fun h => absurd (by omega) h4) h1]
        exact iret2 rfl (by omega)
    · go_wp2
      go_ret2
      refine ⟨?_, rfl⟩
      rw [← HK.out]
      have hkk : k = s.size := by omega
      rw [hkk, List.drop_of_length_le (by simp)]
      rfl

set_option maxRecDepth 100000 in
theorem groups_long (s : ByteArray) (w : World) (hs : s.size ≤ 9223372036854775807) (h10 : 10 < s.size) :
    Calls Try.prog 94 #[.string s] w fun e w' => e = .returned (grpV (grpR s.data.toList 0 0)) ∧ w = w' := by
  go_enter Try.func94, Try.ntmps94
  go_wp2
  go_loop [4, 5, 6, 10] (fun q _ _ i => GrpS s q i) (fun _ _ _ i => 10 - (intOf i).toNat)
  case atStart => exact ⟨0, 0, rfl, rfl, by omega, by omega, by omega, by omega, by exact rfl⟩
  case round =>
    obtain ⟨k, u, rfl, rfl, hk, hk2, hu0, hu1, HK⟩ := hrel
    by_cases hlt : k < 10
    · have hks : k < s.size := by omega
      have hd := hide (drop_at s k hks)
      go_wp2
      · have h1 : 128 ≤ IntKind.u64.wrap (s[k].toNat : Int) := by assumption
        go_round
        case rel => exact ⟨k + 1, gStep u s[k] k, by go_num, rfl, by omega, by omega, (bits_u64 _ _ _).1, (bits_u64 _ _ _).2, by
          have := HK.out
          rw [hd.out, grp_go (by omega) h1] at this
          exact this⟩
        case measure => simp [intOf]; omega
      · have h1 : IntKind.u64.wrap (s[k].toNat : Int) < 128 := by assumption
        have h2 : IntKind.u64.wrap (s[k].toNat : Int) = 0 := by assumption
        have h3 : 0 < k := by assumption
        go_ret2
        refine ⟨?_, rfl⟩
        rw [← HK.out, hd.out, grp_bad (.inl ⟨h3, h2⟩) h1]
        rfl
      · have h1 : IntKind.u64.wrap (s[k].toNat : Int) < 128 := by assumption
        have h2 : ¬ IntKind.u64.wrap (s[k].toNat : Int) = 0 := by assumption
        have h3 : (IntKind.u64.wrap (s[k].toNat : Int) == 0) = true ∨ 1 < IntKind.u64.wrap (s[k].toNat : Int) := by assumption
        have h4 : (k : Int) = 9 := by assumption
        have h5 : 1 < IntKind.u64.wrap (s[k].toNat : Int) := by
          rcases h3 with h3 | h3
          · exact absurd (by simpa using h3) h2
          · exact h3
        go_ret2
        refine ⟨?_, rfl⟩
        rw [← HK.out, hd.out, grp_bad (.inr ⟨by omega, h5⟩) h1]
        rfl
      · have h1 : IntKind.u64.wrap (s[k].toNat : Int) < 128 := by assumption
        have h2 : ¬ IntKind.u64.wrap (s[k].toNat : Int) = 0 := by assumption
        have h3 : (IntKind.u64.wrap (s[k].toNat : Int) == 0) = false ∧ IntKind.u64.wrap (s[k].toNat : Int) ≤ 1 := by assumption
        have h4 : (k : Int) = 9 := by assumption
        go_ret2
        refine ⟨?_, rfl⟩
        rw [← HK.out, hd.out, grp_end (by omega) (fun _ => h2) (fun _ => h3.2) h1]
        exact iret2 rfl (by omega)
      · have h1 : IntKind.u64.wrap (s[k].toNat : Int) < 128 := by assumption
        have h2 : ¬ IntKind.u64.wrap (s[k].toNat : Int) = 0 := by assumption
        have h4 : ¬ (k : Int) = 9 := by assumption
        go_ret2
        refine ⟨?_, rfl⟩
        rw [← HK.out, hd.out, grp_end (by omega) (fun _ => h2) (fun h => absurd (by omega) h4) h1]
        exact iret2 rfl (by omega)
      · have h1 : IntKind.u64.wrap (s[k].toNat : Int) < 128 := by assumption
        have h2 : ¬ 0 < k := by assumption
        have h4 : ¬ (k : Int) = 9 := by assumption
        go_ret2
        refine ⟨?_, rfl⟩
        rw [← HK.out, hd.out, grp_end (by omega) (fun h => absurd h h2) (fun h => absurd (by omega) h4) h1]
        exact iret2 rfl (by omega)
    · go_wp2
      go_ret2
      refine ⟨?_, rfl⟩
      rw [← HK.out]
      have : k = 10 := by omega
      rw [this, grp_over]
      rfl

theorem groups_any (s : ByteArray) (w : World) (hs : s.size ≤ 9223372036854775807) :
    Calls Try.prog 94 #[.string s] w fun e w' => e = .returned (grpV (grpR s.data.toList 0 0)) ∧ w = w' := by
  by_cases h : s.size ≤ 10
  · exact groups_short s w hs h
  · exact groups_long s w hs (by omega)
end Go.Proofs.Ythcnoamgkkbkcaa
