/- The sum of 32 bits: the walks of sums.eight, More, Sum, Seal, Open. -/
import Derived.Test.YtljmaicobafgkaaBase
namespace Go.Proofs.Ytljmaicobafgkaa
open Go.RowKit

/-- One bit's step. -/
def bitStep (c : Int) : Int := bits .xor .u32 (c / 2) (bits .and .u32 3988292384 (-(bits .and .u32 c 1) % 4294967296))
def bitSteps : Nat → Int → Int
  | 0, c => c
  | k + 1, c => bitSteps k (bitStep c)

theorem bits_u32 (op : BinOp) (a b : Int) : 0 ≤ bits op .u32 a b ∧ bits op .u32 a b < 4294967296 := by
  have h : ∀ x : Int, 0 ≤ IntKind.u32.wrap x ∧ IntKind.u32.wrap x < 4294967296 := fun x => by
    simp only [IntKind.wrap]
    exact ⟨Int.emod_nonneg _ (by decide), Int.emod_lt_of_pos _ (by decide)⟩
  unfold bits
  split <;> exact h _

theorem bitSteps_range : ∀ (k : Nat) (c : Int), 0 ≤ c → c < 4294967296 → 0 ≤ bitSteps k c ∧ bitSteps k c < 4294967296
  | 0, _, h0, h1 => ⟨h0, h1⟩
  | k + 1, _, _, _ => bitSteps_range k _ (bits_u32 _ _ _).1 (bits_u32 _ _ _).2

def EightJ (c : Int) (w : World) (a' : Act) (w' : World) : Prop :=
  w = w' ∧ ∃ (m : Nat) (q d : Int) (u4 u5 u6 u7 u8 u9 u10 u11 u12 u13 u14 : Value), a' = { tmps := #[.int .u32 d, undef, .int .u32 0, .int .i64 q, u4, u5, u6, u7, u8, u9, u10, u11, u12, u13, u14, undef], defers := [] } ∧ q = m ∧ bitSteps m d = bitSteps 8 c ∧ 1 ≤ m ∧ m ≤ 8 ∧ 0 ≤ d ∧ d < 4294967296

set_option maxRecDepth 1000000 in
theorem eight_any (c : Int) (w : World) (_h0 : 0 ≤ c) (_h1 : c < 4294967296) :
    Calls Try.prog 189 #[.int .u32 c] w fun e w' => e = .returned (.int .u32 (bitSteps 8 c)) ∧ w = w' := by
  go_enter Try.func189, Try.ntmps189
  go_wp2
  refine wp_scope_jumps 0 (EightJ c w) (fun a' _ => (intOf (a'.tmps.getD 3 undef)).toNat) rfl ?_ ?_
  · go_wp2
    go_step3
    go_wp2
    go_step3
    exact ⟨rfl, rfl, 7, _, _, _, _, _, _, _, _, _, _, _, _, _, rfl, rfl, rfl, by omega, by omega, (bits_u32 _ _ _).1, (bits_u32 _ _ _).2⟩
  · rintro a' w' ⟨rfl, m, q, d, u4, u5, u6, u7, u8, u9, u10, u11, u12, u13, u14, rfl, hq, hs, hm1, hm8, hd0, hd1⟩
    subst hq
    go_wp2
    · have hlt : (1 : Int) < m := by assumption
      go_step3
      obtain ⟨j, rfl⟩ : ∃ j, m = j + 1 := ⟨m - 1, by omega⟩
      exact ⟨rfl, ⟨rfl, j, _, _, _, _, _, _, _, _, _, _, _, _, _, rfl, by omega, hs, by omega, by omega, (bits_u32 _ _ _).1, (bits_u32 _ _ _).2⟩, by simp [intOf]⟩
    · have hle : (m : Int) ≤ 1 := by assumption
      obtain rfl : m = 1 := by omega
      simp only [Exit.jump]
      go_ret
      exact ⟨by rw [← hs]; rfl, rfl⟩

/-- The sum of bytes, from a state on. -/
def sumOn (c : Int) (l : List UInt8) : Int := l.foldl (fun c b => bitSteps 8 (bits .xor .u32 c ((b.toNat : Int) % 4294967296))) c
theorem sumOn_range (c : Int) (l : List UInt8) (h0 : 0 ≤ c) (h1 : c < 4294967296) : 0 ≤ sumOn c l ∧ sumOn c l < 4294967296 := by
  induction l generalizing c with
  | nil => exact ⟨h0, h1⟩
  | cons b l ih =>
    have h := bitSteps_range 8 (bits .xor .u32 c ((b.toNat : Int) % 4294967296)) (bits_u32 _ _ _).1 (bits_u32 _ _ _).2
    exact ih _ h.1 h.2
theorem sumOn_snoc (c : Int) (l : List UInt8) (b : UInt8) : sumOn c (l ++ [b]) = bitSteps 8 (bits .xor .u32 (sumOn c l) ((b.toNat : Int) % 4294967296)) := by simp [sumOn]
theorem take_snoc_bytes (s : ByteArray) (k : Nat) (h : k < s.size) : s.data.toList.take (k + 1) = s.data.toList.take k ++ [s[k]] := by
  rw [List.take_succ_eq_append_getElem (by simpa using h)]
  rfl

def sumInit : Int := bits .xor .u32 IntKind.u32.max 0
def crc (l : List UInt8) : Int := bits .xor .u32 IntKind.u32.max (sumOn sumInit l)
theorem crc_range (l : List UInt8) : 0 ≤ crc l ∧ crc l < 4294967296 := bits_u32 _ _ _

theorem more_any (s : ByteArray) (w : World) (_hs : s.size ≤ 9223372036854775807) :
    Calls Try.prog 184 #[.int .u32 0, .string s] w fun e w' => e = .returned (.int .u32 (crc s.data.toList)) ∧ w = w' := by
  go_enter Try.func184, Try.ntmps184
  go_wp2
  go_loop [5, 6, 11] (fun c _ i => ∃ (k : Nat) (d : Int), k ≤ s.size ∧ i = .int .i64 k ∧ c = .int .u32 d ∧ Hid (d = sumOn sumInit (s.data.toList.take k)) ∧ 0 ≤ d ∧ d < 4294967296) (fun _ _ i => s.size - (intOf i).toNat)
  case atStart => exact ⟨0, _, by omega, rfl, rfl, rfl, (bits_u32 _ _ _).1, (bits_u32 _ _ _).2⟩
  case round =>
    obtain ⟨k, d, hk, rfl, rfl, hd, hd0, hd1⟩ := hrel
    by_cases hlt : k < s.size
    · have hn := bitSteps_range 8 (bits .xor .u32 d ((s[k].toNat : Int) % 4294967296)) (bits_u32 _ _ _).1 (bits_u32 _ _ _).2
      have hx : Hid (bitSteps 8 (bits .xor .u32 d ((s[k].toNat : Int) % 4294967296)) = sumOn sumInit (s.data.toList.take (k + 1))) := by
        rw [take_snoc_bytes s k hlt, sumOn_snoc, ← hd.out]
        exact rfl
      go_wp2_with fail
      refine (eight_any _ _ (bits_u32 _ _ _).1 (bits_u32 _ _ _).2).mono ?_
      rintro e w' ⟨rfl, rfl⟩
      go_wp2
      go_round
      case rel => exact ⟨k + 1, _, by omega, by go_num, rfl, hx, hn.1, hn.2⟩
      case measure => simp [intOf]; omega
    · go_wp2
      go_ret
      have e : s.data.toList.take k = s.data.toList := List.take_of_length_le (by simp; omega)
      have hd' := hd.out
      rw [e] at hd'
      exact ⟨by rw [hd']; rfl, rfl⟩

theorem sum_any (s : ByteArray) (w : World) (hs : s.size ≤ 9223372036854775807) :
    Calls Try.prog 171 #[.string s] w fun e w' => e = .returned (.int .u32 (crc s.data.toList)) ∧ w = w' := by
  go_enter Try.func171, Try.ntmps171
  go_wp2_with (go_at_call 184; refine (more_any _ _ hs).mono ?_; rintro e w' ⟨rfl, rfl⟩)
  go_ret
  exact ⟨rfl, rfl⟩
end Go.Proofs.Ytljmaicobafgkaa
