/- Plain facts on numbers as bytes: there and back. -/
import Derived.Test.YthcnoamgkkbkcaaRp13
namespace Go.Proofs.Ythcnoamgkkbkcaa
open Go.RowKit

theorem gStep_add (u m k : Nat) (b : UInt8) (hm : b.toNat % 128 = m) (hu : u < 2 ^ (7 * k)) (hfit : u + m * 2 ^ (7 * k) < 18446744073709551616) : gStep (u : Int) b k = ((u + m * 2 ^ (7 * k) : Nat) : Int) := by
  unfold gStep
  rw [wr_byte]
  have h1 : bits .and .u64 (b.toNat : Int) 127 = (m : Int) := by
    show IntKind.u64.wrap ((BitVec.ofInt 64 (b.toNat : Int) &&& BitVec.ofInt 64 127).toNat : Int) = _
    have h : (BitVec.ofInt 64 (b.toNat : Int) &&& BitVec.ofInt 64 127).toNat = m := by
      rw [BitVec.toNat_and, BitVec.ofInt_natCast, BitVec.toNat_ofNat, show (BitVec.ofInt 64 127).toNat = 2 ^ 7 - 1 from by decide, Nat.and_two_pow_sub_one_eq_mod]
      have := b.toNat_lt
      omega
    rw [h]
    show (m : Int) % 18446744073709551616 = _
    omega
  rw [h1]
  have hp : ((m : Int) * 2 ^ (7 * k)) = ((m * 2 ^ (7 * k) : Nat) : Int) := by simp
  have hw : IntKind.u64.wrap ((m : Int) * 2 ^ (7 * k)) = ((m * 2 ^ (7 * k) : Nat) : Int) := by
    rw [hp]
    show ((m * 2 ^ (7 * k) : Nat) : Int) % 18446744073709551616 = _
    omega
  rw [hw]
  show IntKind.u64.wrap ((BitVec.ofInt 64 (u : Int) ||| BitVec.ofInt 64 ((m * 2 ^ (7 * k) : Nat) : Int)).toNat : Int) = _
  have h : (BitVec.ofInt 64 (u : Int) ||| BitVec.ofInt 64 ((m * 2 ^ (7 * k) : Nat) : Int)).toNat = u + m * 2 ^ (7 * k) := by
    rw [BitVec.toNat_or, BitVec.ofInt_natCast, BitVec.toNat_ofNat, BitVec.ofInt_natCast, BitVec.toNat_ofNat, Nat.mod_eq_of_lt (by omega), Nat.mod_eq_of_lt (by omega), Nat.mul_comm m, Nat.or_comm, ← Nat.two_pow_add_eq_or_of_lt hu, Nat.add_comm]
  rw [h]
  show ((u + m * 2 ^ (7 * k) : Nat) : Int) % 18446744073709551616 = _
  omega

/-- A number's bytes, with whatever behind them, are that number. -/
theorem grpR_num (r : List UInt8) : ∀ (n v k u : Nat), v < 128 ^ n → u < 2 ^ (7 * k) → u + v * 2 ^ (7 * k) < 18446744073709551616 → (0 < k → 0 < v) → k < 10 →
    grpR (numN v ++ r) k (u : Int) = some (((u + v * 2 ^ (7 * k) : Nat) : Int), k + (numN v).length)
  | 0, v, k, u, hv, hu, hf, hk, h10 => by
    obtain rfl : v = 0 := by simpa using hv
    have hk0 : k = 0 := by
      rcases Nat.eq_zero_or_pos k with h | h
      · exact h
      · exact absurd (hk h) (by omega)
    subst hk0
    have hu0 : u = 0 := by simpa using hu
    subst hu0
    rw [numN_small (by omega)]
    show grpR (UInt8.ofNat 0 :: r) 0 0 = _
    rw [grpR, if_neg (by omega), if_neg (by decide), if_neg (by decide)]
    have := gStep_add 0 0 0 (UInt8.ofNat 0) (by decide) (by decide) (by decide)
    simp only [Int.cast_ofNat_Int] at this
    rw [this]
    rfl
  | n + 1, v, k, u, hv, hu, hf, hk, h10 => by
    have hpos : 0 < 2 ^ (7 * k) := Nat.two_pow_pos _
    by_cases hsm : v < 128
    · rw [numN_small hsm]
      show grpR (UInt8.ofNat v :: r) k u = _
      have hb : (UInt8.ofNat v).toNat = v := by simp only [UInt8.toNat_ofNat']; omega
      have hbad : ¬ ((0 < k ∧ (UInt8.ofNat v).toNat = 0) ∨ (k = 9 ∧ 1 < (UInt8.ofNat v).toNat)) := by
        rw [hb]
        rintro (⟨a, c⟩ | ⟨rfl, c⟩)
        · have := hk a
          omega
        · have h2 : 2 * 2 ^ (7 * 9) ≤ v * 2 ^ (7 * 9) := Nat.mul_le_mul_right _ (by omega)
          have h3 : 2 * 2 ^ (7 * 9) = 18446744073709551616 := by decide
          omega
      rw [grpR, if_neg (by omega), if_neg (by rw [hb]; omega), if_neg hbad, gStep_add u v k _ (by rw [hb]; omega) hu hf]
      rfl
    · rw [numN_large hsm]
      show grpR (UInt8.ofNat (v % 128 + 128) :: (numN (v / 128) ++ r)) k u = _
      have hb : (UInt8.ofNat (v % 128 + 128)).toNat = v % 128 + 128 := by simp only [UInt8.toNat_ofNat']; omega
      have e1 : 2 ^ (7 * (k + 1)) = 128 * 2 ^ (7 * k) := by rw [show 7 * (k + 1) = 7 * k + 7 from by omega, Nat.pow_add]; omega
      have e2 : v * 2 ^ (7 * k) = v % 128 * 2 ^ (7 * k) + v / 128 * 2 ^ (7 * (k + 1)) := by
        rw [e1, ← Nat.mul_assoc, ← Nat.add_mul]
        congr 1
        omega
      have h9 : k < 9 := by
        rcases Nat.lt_or_ge k 9 with h | h
        · exact h
        · have hk9 : k = 9 := by omega
          subst hk9
          have h2 : 128 * 2 ^ (7 * 9) ≤ v * 2 ^ (7 * 9) := Nat.mul_le_mul_right _ (by omega)
          have h3 : 128 * 2 ^ (7 * 9) = 1180591620717411303424 := by decide
          omega
      have hle : u + v % 128 * 2 ^ (7 * k) < 2 ^ (7 * (k + 1)) := by
        rw [e1]
        have : v % 128 * 2 ^ (7 * k) ≤ 127 * 2 ^ (7 * k) := Nat.mul_le_mul_right _ (by omega)
        omega
      rw [grpR, if_neg (by omega), if_pos (by rw [hb]; omega), gStep_add u (v % 128) k _ (by rw [hb]; omega) hu (by omega)]
      rw [grpR_num r n (v / 128) (k + 1) (u + v % 128 * 2 ^ (7 * k)) (by rw [Nat.pow_succ] at hv; exact Nat.div_lt_of_lt_mul (by rw [Nat.mul_comm]; exact hv)) hle (by omega) (fun _ => by omega) (by omega)]
      rw [List.length_cons, e2]
      simp only [Option.some.injEq, Prod.mk.injEq]
      exact ⟨by omega, by omega⟩

theorem unz_zz (n : Int) : unz (zz n : Int) = n := by
  unfold unz zz
  split <;> split <;> omega
theorem rInt_num (n : Int) (r : List UInt8) (h0 : -9223372036854775808 ≤ n) (h1 : n ≤ 9223372036854775807) : rInt (some (num n ++ r)) = (n, some r) := by
  have hz := zz_lt n h0 h1
  have h := grpR_num r 10 (zz n) 0 0 (Nat.lt_of_lt_of_le hz (by decide)) (by decide) (by simpa using hz) (fun h => absurd h (by decide)) (by decide)
  have h' : grpR (num n ++ r) 0 0 = some ((zz n : Int), (num n).length) := by
    simpa [num] using h
  simp only [rInt, h', unz_zz]
  simp
theorem rText_text (l r : List UInt8) (h : l.length ≤ 1073741824) : rText (some (textB l ++ r)) = (l, some r) := by
  have hi : rInt (some (textB l ++ r)) = ((l.length : Int), some (l ++ r)) := by
    unfold textB
    rw [List.append_assoc]
    exact rInt_num _ _ (by omega) (by omega)
  unfold rText
  rw [hi]
  simp
  omega
theorem ofNat_toNat (b : UInt8) : UInt8.ofNat b.toNat = b := by simp
theorem ub_toNat (b : UInt8) : ub (b.toNat : Int) = b := by
  have := b.toNat_lt
  unfold ub
  rw [show ((b.toNat : Int) % 256).toNat = b.toNat from by omega]
  exact ofNat_toNat b

/-- What is read as a number is that number's bytes. -/
theorem grpR_inv : ∀ (l : List UInt8) (k U : Nat) (v : Int) (n : Nat), U < 2 ^ (7 * k) → grpR l k (U : Int) = some (v, n) →
    ∃ x : Nat, v = ((U + x * 2 ^ (7 * k) : Nat) : Int) ∧ U + x * 2 ^ (7 * k) < 18446744073709551616 ∧ (0 < k → 0 < x) ∧ (numN x).length + k = n ∧ l = numN x ++ l.drop (n - k)
  | [], k, U, v, n, _, h => by simp [grpR] at h
  | b :: r, k, U, v, n, hU, h => by
    have hbl := b.toNat_lt
    have hpos : 0 < 2 ^ (7 * k) := Nat.two_pow_pos _
    rw [grpR] at h
    split at h
    · cases h
    · rename_i hk10
      split at h
      · rename_i hb128
        have e1 : 2 ^ (7 * (k + 1)) = 128 * 2 ^ (7 * k) := by rw [show 7 * (k + 1) = 7 * k + 7 from by omega, Nat.pow_add]; omega
        have h8 : k ≤ 8 := by
          rcases Nat.lt_or_ge 8 k with h9 | h9
          · have hk9 : k = 9 := by omega
            subst hk9
            rw [grp_over] at h
            cases h
          · exact h9
        have hle : 2 ^ (7 * (k + 1)) ≤ 2 ^ 63 := Nat.pow_le_pow_right (by decide) (by omega)
        have hmul : b.toNat % 128 * 2 ^ (7 * k) ≤ 127 * 2 ^ (7 * k) := Nat.mul_le_mul_right _ (by omega)
        have hfit : U + b.toNat % 128 * 2 ^ (7 * k) < 2 ^ (7 * (k + 1)) := by omega
        rw [gStep_add U (b.toNat % 128) k b rfl hU (by omega)] at h
        obtain ⟨x, hv, hlt, hx, hn, hl⟩ := grpR_inv r (k + 1) _ v n hfit h
        have hx0 := hx (by omega)
        have ex : (x * 128 + b.toNat % 128) * 2 ^ (7 * k) = b.toNat % 128 * 2 ^ (7 * k) + x * 2 ^ (7 * (k + 1)) := by
          rw [e1, Nat.add_mul, ← Nat.mul_assoc]
          omega
        have hbig : ¬ x * 128 + b.toNat % 128 < 128 := by omega
        have enum : numN (x * 128 + b.toNat % 128) = b :: numN x := by
          rw [numN_large hbig]
          rw [show (x * 128 + b.toNat % 128) / 128 = x from by omega, show (x * 128 + b.toNat % 128) % 128 + 128 = b.toNat from by omega, ofNat_toNat]
        refine ⟨x * 128 + b.toNat % 128, by rw [hv, ex]; congr 1; omega, by rw [ex]; omega, fun _ => by omega, by rw [enum, List.length_cons]; omega, ?_⟩
        rw [enum, List.cons_append]
        have hnk : n - k = (n - (k + 1)) + 1 := by have := numN_pos x; omega
        rw [hnk, List.drop_succ_cons, ← hl]
      · split at h
        · cases h
        · rename_i hb128 hbad
          have hb : ¬ 128 ≤ b.toNat := hb128
          have hfit : U + b.toNat * 2 ^ (7 * k) < 18446744073709551616 := by
            rcases Nat.lt_or_ge 8 k with h9 | h9
            · have hk9 : k = 9 := by omega
              subst hk9
              have hb1 : b.toNat ≤ 1 := by
                rcases Nat.lt_or_ge 1 b.toNat with hh | hh
                · exact absurd (.inr ⟨rfl, hh⟩) hbad
                · exact hh
              have h2 : b.toNat * 2 ^ (7 * 9) ≤ 1 * 2 ^ (7 * 9) := Nat.mul_le_mul_right _ hb1
              have h3 : (2 : Nat) ^ (7 * 9) = 9223372036854775808 := by decide
              omega
            · have hle : 2 ^ (7 * k) ≤ 2 ^ 56 := Nat.pow_le_pow_right (by decide) (by omega)
              have hmul : b.toNat * 2 ^ (7 * k) ≤ 127 * 2 ^ (7 * k) := Nat.mul_le_mul_right _ (by omega)
              have h3 : (2 : Nat) ^ 56 = 72057594037927936 := by decide
              omega
          rw [gStep_add U b.toNat k b (by omega) hU hfit] at h
          simp only [Option.some.injEq, Prod.mk.injEq] at h
          obtain ⟨rfl, rfl⟩ := h
          refine ⟨b.toNat, rfl, hfit, fun hk => ?_, ?_, ?_⟩
          · rcases Nat.eq_zero_or_pos b.toNat with h0 | h0
            · exact absurd (.inl ⟨hk, h0⟩) hbad
            · exact h0
          · rw [numN_small (by omega)]
            simp
            omega
          · rw [numN_small (by omega), ofNat_toNat, show k + 1 - k = 1 from by omega]
            rfl

theorem zz_unz (x : Nat) : zz (unz (x : Int)) = x := by
  unfold zz unz
  split <;> split <;> omega
theorem unz_range (x : Nat) (hx : x < 18446744073709551616) : -9223372036854775808 ≤ unz (x : Int) ∧ unz (x : Int) ≤ 9223372036854775807 := by
  unfold unz
  split <;> omega
theorem rInt_inv {l r : List UInt8} {n : Int} (h : rInt (some l) = (n, some r)) : l = num n ++ r ∧ -9223372036854775808 ≤ n ∧ n ≤ 9223372036854775807 := by
  simp only [rInt] at h
  split at h
  · simp at h
  · rename_i v k hg
    simp only [Prod.mk.injEq, Option.some.injEq] at h
    obtain ⟨rfl, rfl⟩ := h
    obtain ⟨x, hv, hlt, _, hn, hl⟩ := grpR_inv l 0 0 v k (by decide) hg
    have hx : v = (x : Int) := by rw [hv]; simp
    have hxl : x < 18446744073709551616 := by simpa using hlt
    subst hx
    have hr := unz_range x hxl
    refine ⟨?_, hr.1, hr.2⟩
    unfold num
    rw [zz_unz]
    exact hl
theorem rByte_inv {l r : List UInt8} (h : (rByte (some l)).2 = some r) : ∃ b : UInt8, l = b :: r ∧ (rByte (some l)).1 = (b.toNat : Int) := by
  rcases l with _ | ⟨b, l⟩
  · simp [rByte] at h
  · simp only [rByte, Option.some.injEq] at h
    subst h
    exact ⟨b, rfl, rfl⟩
theorem rText_inv {l r : List UInt8} (h : (rText (some l)).2 = some r) : l = textB (rText (some l)).1 ++ r := by
  obtain ⟨n, q, hq⟩ : ∃ n q, rInt (some l) = (n, q) := ⟨_, _, rfl⟩
  unfold rText at h ⊢
  rw [hq] at h ⊢
  rcases q with _ | q
  · simp at h
  · simp only at h ⊢
    obtain ⟨hl, _, _⟩ := rInt_inv hq
    by_cases hc : 0 ≤ n ∧ n ≤ (q.length : Int)
    · rw [if_pos hc] at h ⊢
      simp only [Option.some.injEq] at h
      subst h
      simp only [textB]
      rw [List.length_take, show ((min n.toNat q.length : Nat) : Int) = n from by omega, List.append_assoc, List.take_append_drop]
      exact hl
    · rw [if_neg hc] at h
      simp at h
end Go.Proofs.Ythcnoamgkkbkcaa
