/- A join of 2 texts of this claim: Pure2, FrBack. Conditions: none of their own. -/
import Derived.Test.YtljmaicobafgkaaK9
section
/- Plain facts: what is read is just its bytes; a byte turned turns the sum. -/
namespace Go.Proofs.Ytljmaicobafgkaa
open Go.RowKit

theorem ofNat_toNat (b : UInt8) : UInt8.ofNat b.toNat = b := by simp
theorem ub_toNat (b : UInt8) : ub (b.toNat : Int) = b := by
  have := b.toNat_lt
  unfold ub
  rw [show ((b.toNat : Int) % 256).toNat = b.toNat from by omega]
  exact ofNat_toNat b

/-- What is read as a number is that number's bytes. -/
theorem grpR_inv : ∀ (l : List UInt8) (k U : Nat) (v : Int) (n : Nat), U < 2 ^ (7 * k) → grpR l k (U : Int) = some (v, n) →
    ∃ x : Nat, v = ((U + x * 2 ^ (7 * k) : Nat) : Int) ∧ U + x * 2 ^ (7 * k) < 18446744073709551616 ∧ (0 < k → 0 < x) ∧ (numN x).length + k = n ∧ l = numN x ++ l.drop (n - k)
  | [], k, U, v, n, _, h => by simp [grpR] at h
  | b :: r, k, U, v, n, hU, h => by
    have hbl := b.toNat_lt
    have hpos : 0 < 2 ^ (7 * k) := Nat.two_pow_pos _
    rw [grpR] at h
    split at h
    · cases h
    · rename_i hk10
      split at h
      · rename_i hb128
        have e1 : 2 ^ (7 * (k + 1)) = 128 * 2 ^ (7 * k) := by rw [show 7 * (k + 1) = 7 * k + 7 from by omega, Nat.pow_add]; omega
        have h8 : k ≤ 8 := by
          rcases Nat.lt_or_ge 8 k with h9 | h9
          · have hk9 : k = 9 := by omega
            subst hk9
            rw [grp_over] at h
            cases h
          · exact h9
        have hle : 2 ^ (7 * (k + 1)) ≤ 2 ^ 63 := Nat.pow_le_pow_right (by decide) (by omega)
        have hmul : b.toNat % 128 * 2 ^ (7 * k) ≤ 127 * 2 ^ (7 * k) := Nat.mul_le_mul_right _ (by omega)
        have hfit : U + b.toNat % 128 * 2 ^ (7 * k) < 2 ^ (7 * (k + 1)) := by omega
        rw [gStep_add U (b.toNat % 128) k b rfl hU (by omega)] at h
        obtain ⟨x, hv, hlt, hx, hn, hl⟩ := grpR_inv r (k + 1) _ v n hfit h
        have hx0 := hx (by omega)
        have ex : (x * 128 + b.toNat % 128) * 2 ^ (7 * k) = b.toNat % 128 * 2 ^ (7 * k) + x * 2 ^ (7 * (k + 1)) := by
          rw [e1, Nat.add_mul, ← Nat.mul_assoc]
          omega
        have hbig : ¬ x * 128 + b.toNat % 128 < 128 := by omega
        have enum : numN (x * 128 + b.toNat % 128) = b :: numN x := by
          rw [numN_large hbig]
          rw [show (x * 128 + b.toNat % 128) / 128 = x from by omega, show (x * 128 + b.toNat % 128) % 128 + 128 = b.toNat from by omega, ofNat_toNat]
        refine ⟨x * 128 + b.toNat % 128, by rw [hv, ex]; congr 1; omega, by rw [ex]; omega, fun _ => by omega, by rw [enum, List.length_cons]; omega, ?_⟩
        rw [enum, List.cons_append]
        have hnk : n - k = (n - (k + 1)) + 1 := by have := numN_pos x; omega
        rw [hnk, List.drop_succ_cons, ← hl]
      · split at h
        · cases h
        · rename_i hb128 hbad
          have hb : ¬ 128 ≤ b.toNat := hb128
          have hfit : U + b.toNat * 2 ^ (7 * k) < 18446744073709551616 := by
            rcases Nat.lt_or_ge 8 k with h9 | h9
            · have hk9 : k = 9 := by omega
              subst hk9
              have hb1 : b.toNat ≤ 1 := by
                rcases Nat.lt_or_ge 1 b.toNat with hh | hh
                · exact absurd (.inr ⟨rfl, hh⟩) hbad
                · exact hh
              have h2 : b.toNat * 2 ^ (7 * 9) ≤ 1 * 2 ^ (7 * 9) := Nat.mul_le_mul_right _ hb1
              have h3 : (2 : Nat) ^ (7 * 9) = 9223372036854775808 := by decide
              omega
            · have hle : 2 ^ (7 * k) ≤ 2 ^ 56 := Nat.pow_le_pow_right (by decide) (by omega)
              have hmul : b.toNat * 2 ^ (7 * k) ≤ 127 * 2 ^ (7 * k) := Nat.mul_le_mul_right _ (by omega)
              have h3 : (2 : Nat) ^ 56 = 72057594037927936 := by decide
              omega
          rw [gStep_add U b.toNat k b (by omega) hU hfit] at h
          simp only [Option.some.injEq, Prod.mk.injEq] at h
          obtain ⟨rfl, rfl⟩ := h
          refine ⟨b.toNat, rfl, hfit, fun hk => ?_, ?_, ?_⟩
          · rcases Nat.eq_zero_or_pos b.toNat with h0 | h0
            · exact absurd (.inl ⟨hk, h0⟩) hbad
            · exact h0
          · rw [numN_small (by omega)]
            simp
            omega
          · rw [numN_small (by omega), ofNat_toNat, show k + 1 - k = 1 from by omega]
            rfl

theorem zz_unz (x : Nat) : zz (unz (x : Int)) = x := by
  unfold zz unz
  split <;> split <;> omega
theorem unz_range (x : Nat) (hx : x < 18446744073709551616) : -9223372036854775808 ≤ unz (x : Int) ∧ unz (x : Int) ≤ 9223372036854775807 := by
  unfold unz
  split <;> omega
theorem rInt_inv {l r : List UInt8} {n : Int} (h : rInt (some l) = (n, some r)) : l = num n ++ r ∧ -9223372036854775808 ≤ n ∧ n ≤ 9223372036854775807 := by
  simp only [rInt] at h
  split at h
  · simp at h
  · rename_i v k hg
    simp only [Prod.mk.injEq, Option.some.injEq] at h
    obtain ⟨rfl, rfl⟩ := h
    obtain ⟨x, hv, hlt, _, hn, hl⟩ := grpR_inv l 0 0 v k (by decide) hg
    have hx : v = (x : Int) := by rw [hv]; simp
    have hxl : x < 18446744073709551616 := by simpa using hlt
    subst hx
    have hr := unz_range x hxl
    refine ⟨?_, hr.1, hr.2⟩
    unfold num
    rw [zz_unz]
    exact hl
theorem rByte_inv {l r : List UInt8} (h : (rByte (some l)).2 = some r) : ∃ b : UInt8, l = b :: r ∧ (rByte (some l)).1 = (b.toNat : Int) := by
  rcases l with _ | ⟨b, l⟩
  · simp [rByte] at h
  · simp only [rByte, Option.some.injEq] at h
    subst h
    exact ⟨b, rfl, rfl⟩
theorem rText_inv {l r : List UInt8} (h : (rText (some l)).2 = some r) : l = textB (rText (some l)).1 ++ r := by
  obtain ⟨n, q, hq⟩ : ∃ n q, rInt (some l) = (n, q) := ⟨_, _, rfl⟩
  unfold rText at h ⊢
  rw [hq] at h ⊢
  rcases q with _ | q
  · simp at h
  · simp only at h ⊢
    obtain ⟨hl, _, _⟩ := rInt_inv hq
    by_cases hc : 0 ≤ n ∧ n ≤ (q.length : Int)
    · rw [if_pos hc] at h ⊢
      simp only [Option.some.injEq] at h
      subst h
      simp only [textB]
      rw [List.length_take, show ((min n.toNat q.length : Nat) : Int) = n from by omega, List.append_assoc, List.take_append_drop]
      exact hl
    · rw [if_neg hc] at h
      simp at h
/-- Bytes that are read as a message are just its. -/
theorem enc_dec (t : List UInt8) (h : dOk t) : frB (dK t) (dF t) (dT t) (dI t) (dB t) = t ∧ msgOk (dK t) (dF t) (dT t) (dI t) ∧ (dB t).length ≤ 4096 := by
  obtain ⟨h5, hc⟩ := h
  have hm : msgOk (dK t) (dF t) (dT t) (dI t) ∧ (dB t).length ≤ 4096 := by
    unfold chk at hc
    by_cases h1 : msgOk (dK t) (dF t) (dT t) (dI t)
    · rw [if_pos h1] at hc
      by_cases h2 : 4096 < (dB t).length
      · rw [if_pos h2] at hc
        omega
      · exact ⟨h1, by omega⟩
    · rw [if_neg h1] at hc
      omega
  refine ⟨?_, hm⟩
  have e4 : ∃ r4, d4 t = some r4 := by
    rcases h4 : d4 t with _ | r4
    · unfold d5 at h5
      rw [h4] at h5
      simp [rText, rInt] at h5
    · exact ⟨r4, rfl⟩
  obtain ⟨r4, e4⟩ := e4
  have e3 : ∃ r3, d3 t = some r3 := by
    rcases h3 : d3 t with _ | r3
    · unfold d4 at e4
      rw [h3] at e4
      simp [rInt] at e4
    · exact ⟨r3, rfl⟩
  obtain ⟨r3, e3⟩ := e3
  have e2 : ∃ r2, d2 t = some r2 := by
    rcases h2 : d2 t with _ | r2
    · unfold d3 at e3
      rw [h2] at e3
      simp [rByte] at e3
    · exact ⟨r2, rfl⟩
  obtain ⟨r2, e2⟩ := e2
  have e1 : ∃ r1, d1 t = some r1 := by
    rcases h1 : d1 t with _ | r1
    · unfold d2 at e2
      rw [h1] at e2
      simp [rByte] at e2
    · exact ⟨r1, rfl⟩
  obtain ⟨r1, e1⟩ := e1
  obtain ⟨b1, ht, hb1⟩ := rByte_inv (l := t) (r := r1) (by exact e1)
  obtain ⟨b2, hr1, hb2⟩ := rByte_inv (l := r1) (r := r2) (by have := e2; unfold d2 at this; rw [e1] at this; exact this)
  obtain ⟨b3, hr2, hb3⟩ := rByte_inv (l := r2) (r := r3) (by have := e3; unfold d3 at this; rw [e2] at this; exact this)
  have hi : rInt (some r3) = (dI t, some r4) := by
    have h1 : dI t = (rInt (some r3)).1 := by unfold dI; rw [e3]
    have h2 : (rInt (some r3)).2 = some r4 := by have := e4; unfold d4 at this; rw [e3] at this; exact this
    rw [h1, ← h2]
  obtain ⟨hr3, _, _⟩ := rInt_inv hi
  have hx : (rText (some r4)).2 = some [] := by have := h5; unfold d5 at this; rw [e4] at this; exact this
  have hr4 := rText_inv hx
  have hB : dB t = (rText (some r4)).1 := by unfold dB; rw [e4]
  have hK : dK t = (b1.toNat : Int) := hb1
  have hF : dF t = (b2.toNat : Int) := by unfold dF; rw [e1]; exact hb2
  have hT : dT t = (b3.toNat : Int) := by unfold dT; rw [e2]; exact hb3
  rw [frB_eq, hK, hF, hT, ub_toNat, ub_toNat, ub_toNat, hB]
  rw [List.append_nil] at hr4
  rw [← hr4, ← hr3, ← hr2, ← hr1, ← ht]
theorem openL_inv {l t : List UInt8} (h : openL l = some t) : l = t ++ le4 (crc t) := by
  unfold openL at h
  split at h
  · rename_i he
    simp only [Option.some.injEq] at h
    rw [← h, he, List.take_append_drop]
  · cases h

/-! A byte turned. -/
theorem xor_u32 (a b : Nat) (ha : a < 4294967296) (hb : b < 4294967296) : bits .xor .u32 (a : Int) (b : Int) = ((a ^^^ b : Nat) : Int) := by
  show IntKind.u32.wrap ((BitVec.ofInt 32 (a : Int) ^^^ BitVec.ofInt 32 (b : Int)).toNat : Int) = _
  have h : (BitVec.ofInt 32 (a : Int) ^^^ BitVec.ofInt 32 (b : Int)).toNat = a ^^^ b := by
    rw [BitVec.toNat_xor, BitVec.ofInt_natCast, BitVec.toNat_ofNat, BitVec.ofInt_natCast, BitVec.toNat_ofNat, Nat.mod_eq_of_lt (by omega), Nat.mod_eq_of_lt (by omega)]
  have hx : a ^^^ b < 2 ^ 32 := Nat.xor_lt_two_pow (by omega) (by omega)
  rw [h]
  show ((a ^^^ b : Nat) : Int) % 4294967296 = _
  omega
theorem xor_cancel (a b c : Nat) (h : a ^^^ c = b ^^^ c) : a = b := by
  have h2 := congrArg (· ^^^ c) h
  simpa [Nat.xor_assoc] using h2
theorem bitStep_inj (a b : Nat) (ha : a < 4294967296) (hb : b < 4294967296) (h : bitStep (a : Int) = bitStep (b : Int)) : a = b := by
  have key : ∀ n : Nat, n < 4294967296 → (n % 2 = 1 → bitStep (n : Int) = ((n / 2 ^^^ 3988292384 : Nat) : Int)) ∧ (n % 2 = 0 → bitStep (n : Int) = ((n / 2 : Nat) : Int)) := fun n hn => by
    have ha := and1_u32 n
    refine ⟨fun h => ?_, fun h => ?_⟩
    · rw [← bitStep_odd (n : Int) (by omega) (by rw [ha, h]; rfl), show ((n : Int) / 2) = ((n / 2 : Nat) : Int) from by omega]
      exact xor_u32 (n / 2) 3988292384 (by omega) (by decide)
    · rw [← bitStep_even (n : Int) (by omega) (by omega) (by rw [ha, h]; rfl)]
      omega
  have hi : ∀ n : Nat, n < 2147483648 → 2147483648 ≤ n ^^^ 3988292384 := fun n hn => by
    rcases Nat.lt_or_ge (n ^^^ 3988292384) 2147483648 with hlt | hge
    · exfalso
      have h1 : n ^^^ (n ^^^ 3988292384) < 2 ^ 31 := Nat.xor_lt_two_pow (by omega) (by omega)
      rw [← Nat.xor_assoc, Nat.xor_self, Nat.zero_xor] at h1
      exact absurd h1 (by decide)
    · exact hge
  obtain ⟨a1, a0⟩ := key a ha
  obtain ⟨b1, b0⟩ := key b hb
  rcases Nat.mod_two_eq_zero_or_one a with ea | ea <;> rcases Nat.mod_two_eq_zero_or_one b with eb | eb
  · rw [a0 ea, b0 eb] at h
    omega
  · rw [a0 ea, b1 eb] at h
    have := hi (b / 2) (by omega)
    omega
  · rw [a1 ea, b0 eb] at h
    have := hi (a / 2) (by omega)
    omega
  · rw [a1 ea, b1 eb] at h
    have h2 : a / 2 ^^^ 3988292384 = b / 2 ^^^ 3988292384 := by omega
    have := xor_cancel _ _ _ h2
    omega
theorem bitSteps_inj : ∀ (k : Nat) (a b : Int), 0 ≤ a → a < 4294967296 → 0 ≤ b → b < 4294967296 → bitSteps k a = bitSteps k b → a = b
  | 0, _, _, _, _, _, _, h => h
  | k + 1, a, b, ha0, ha1, hb0, hb1, h => by
    have h1 := bitSteps_inj k (bitStep a) (bitStep b) (bits_u32 _ _ _).1 (bits_u32 _ _ _).2 (bits_u32 _ _ _).1 (bits_u32 _ _ _).2 h
    obtain ⟨n, rfl⟩ : ∃ n : Nat, a = n := ⟨a.toNat, by omega⟩
    obtain ⟨m, rfl⟩ : ∃ m : Nat, b = m := ⟨b.toNat, by omega⟩
    rw [bitStep_inj n m (by omega) (by omega) h1]
theorem xor_byte_inj {c : Int} {x y : UInt8} (h0 : 0 ≤ c) (h1 : c < 4294967296) (h : bits .xor .u32 c ((x.toNat : Int) % 4294967296) = bits .xor .u32 c ((y.toNat : Int) % 4294967296)) : x = y := by
  obtain ⟨n, rfl⟩ : ∃ n : Nat, c = n := ⟨c.toNat, by omega⟩
  have hx := x.toNat_lt
  have hy := y.toNat_lt
  rw [show ((x.toNat : Int) % 4294967296) = (x.toNat : Int) from by omega, show ((y.toNat : Int) % 4294967296) = (y.toNat : Int) from by omega, xor_u32 _ _ (by omega) (by omega), xor_u32 _ _ (by omega) (by omega)] at h
  have h2 : x.toNat ^^^ n = y.toNat ^^^ n := by rw [Nat.xor_comm x.toNat, Nat.xor_comm y.toNat]; omega
  have := xor_cancel _ _ _ h2
  exact UInt8.toNat_inj.mp this
theorem xor_state_inj {c d : Int} {x : UInt8} (h0 : 0 ≤ c) (h1 : c < 4294967296) (h2 : 0 ≤ d) (h3 : d < 4294967296) (h : bits .xor .u32 c ((x.toNat : Int) % 4294967296) = bits .xor .u32 d ((x.toNat : Int) % 4294967296)) : c = d := by
  obtain ⟨n, rfl⟩ : ∃ n : Nat, c = n := ⟨c.toNat, by omega⟩
  obtain ⟨m, rfl⟩ : ∃ m : Nat, d = m := ⟨d.toNat, by omega⟩
  have hx := x.toNat_lt
  rw [show ((x.toNat : Int) % 4294967296) = (x.toNat : Int) from by omega, xor_u32 _ _ (by omega) (by omega), xor_u32 _ _ (by omega) (by omega)] at h
  have h4 : n ^^^ x.toNat = m ^^^ x.toNat := by omega
  rw [xor_cancel _ _ _ h4]
theorem sumOn_inj : ∀ (q : List UInt8) (c d : Int), 0 ≤ c → c < 4294967296 → 0 ≤ d → d < 4294967296 → sumOn c q = sumOn d q → c = d
  | [], _, _, _, _, _, _, h => h
  | b :: q, c, d, hc0, hc1, hd0, hd1, h => by
    have rc := bitSteps_range 8 (bits .xor .u32 c ((b.toNat : Int) % 4294967296)) (bits_u32 _ _ _).1 (bits_u32 _ _ _).2
    have rd := bitSteps_range 8 (bits .xor .u32 d ((b.toNat : Int) % 4294967296)) (bits_u32 _ _ _).1 (bits_u32 _ _ _).2
    have h1 := sumOn_inj q _ _ rc.1 rc.2 rd.1 rd.2 h
    exact xor_state_inj hc0 hc1 hd0 hd1 (bitSteps_inj 8 _ _ (bits_u32 _ _ _).1 (bits_u32 _ _ _).2 (bits_u32 _ _ _).1 (bits_u32 _ _ _).2 h1)
theorem sumOn_append (c : Int) (p q : List UInt8) : sumOn c (p ++ q) = sumOn (sumOn c p) q := by simp [sumOn]
theorem crc_turn (p q : List UInt8) (x y : UInt8) (h : crc (p ++ x :: q) = crc (p ++ y :: q)) : x = y := by
  have h0 : 0 ≤ sumInit ∧ sumInit < 4294967296 := bits_u32 _ _ _
  have rp := sumOn_range sumInit p h0.1 h0.2
  have r1 := sumOn_range sumInit (p ++ x :: q) h0.1 h0.2
  have r2 := sumOn_range sumInit (p ++ y :: q) h0.1 h0.2
  unfold crc at h
  have h1 : sumOn sumInit (p ++ x :: q) = sumOn sumInit (p ++ y :: q) := by
    obtain ⟨n, hn⟩ : ∃ n : Nat, sumOn sumInit (p ++ x :: q) = n := ⟨_, (Int.toNat_of_nonneg r1.1).symm⟩
    obtain ⟨m, hm⟩ : ∃ m : Nat, sumOn sumInit (p ++ y :: q) = m := ⟨_, (Int.toNat_of_nonneg r2.1).symm⟩
    rw [hn, hm, xor_comm_u32, xor_comm_u32 _ (m : Int), show (IntKind.u32.max) = ((4294967295 : Nat) : Int) from by decide, xor_u32 _ _ (by omega) (by decide), xor_u32 _ _ (by omega) (by decide)] at h
    have h4 : n ^^^ 4294967295 = m ^^^ 4294967295 := by omega
    rw [hn, hm, xor_cancel _ _ _ h4]
  rw [sumOn_append, sumOn_append] at h1
  have b1 := bitSteps_range 8 (bits .xor .u32 (sumOn sumInit p) ((x.toNat : Int) % 4294967296)) (bits_u32 _ _ _).1 (bits_u32 _ _ _).2
  have b2 := bitSteps_range 8 (bits .xor .u32 (sumOn sumInit p) ((y.toNat : Int) % 4294967296)) (bits_u32 _ _ _).1 (bits_u32 _ _ _).2
  have h2 := sumOn_inj q _ _ b1.1 b1.2 b2.1 b2.2 h1
  exact xor_byte_inj rp.1 rp.2 (bitSteps_inj 8 _ _ (bits_u32 _ _ _).1 (bits_u32 _ _ _).2 (bits_u32 _ _ _).1 (bits_u32 _ _ _).2 h2)
theorem le4_inj {a b : Int} (ha0 : 0 ≤ a) (ha1 : a < 4294967296) (hb0 : 0 ≤ b) (hb1 : b < 4294967296) (h : le4 a = le4 b) : a = b := by
  unfold le4 at h
  simp only [List.cons.injEq, and_true] at h
  obtain ⟨h1, h2, h3, h4⟩ := h
  have e1 := congrArg (fun x : UInt8 => (x.toNat : Int)) h1
  have e2 := congrArg (fun x : UInt8 => (x.toNat : Int)) h2
  have e3 := congrArg (fun x : UInt8 => (x.toNat : Int)) h3
  have e4 := congrArg (fun x : UInt8 => (x.toNat : Int)) h4
  simp only [ub_val] at e1 e2 e3 e4
  omega
/-- Sealed bytes of which one is another one do not open. -/
theorem open_turned (t : List UInt8) (i : Nat) (y : UInt8) (hi : i < (t ++ le4 (crc t)).length) (hy : (t ++ le4 (crc t))[i] ≠ y) : openL ((t ++ le4 (crc t)).set i y) = none := by
  have hlen : ((t ++ le4 (crc t)).set i y).length - 4 = t.length := by rw [List.length_set, List.length_append, le4_length]; omega
  unfold openL
  rw [hlen]
  rw [if_neg]
  intro h
  by_cases hit : i < t.length
  · rw [List.set_append_left _ _ hit] at h
    have hl : (t.set i y).length = t.length := List.length_set ..
    rw [← hl, List.take_left, List.drop_left] at h
    have hc := le4_inj (crc_range _).1 (crc_range _).2 (crc_range _).1 (crc_range _).2 h
    have e1 : t = t.take i ++ t[i] :: t.drop (i + 1) := by rw [List.getElem_cons_drop, List.take_append_drop]
    have e2 : t.set i y = t.take i ++ y :: t.drop (i + 1) := List.set_eq_take_append_cons_drop .. |>.trans (by rw [if_pos hit])
    rw [e2] at hc
    have e3 : crc t = crc (t.take i ++ t[i] :: t.drop (i + 1)) := congrArg crc e1
    rw [e3] at hc
    have := crc_turn _ _ _ _ hc
    apply hy
    rw [List.getElem_append_left hit]
    exact this.symm
  · rw [List.set_append_right _ _ (by omega), List.take_left, List.drop_left] at h
    have hj : i - t.length < (le4 (crc t)).length := by rw [List.length_append] at hi; omega
    have h2 : (le4 (crc t))[i - t.length] = y := by
      have h3 := List.getElem_set_self (l := le4 (crc t)) (i := i - t.length) (a := y) (by simpa using hj)
      have h4 : ((le4 (crc t)).set (i - t.length) y)[i - t.length]'(by simpa using hj) = (le4 (crc t))[i - t.length] := by
        simp only [← h]
      rw [← h4]
      exact h3
    apply hy
    rw [List.getElem_append_right (by omega)]
    exact h2
end Go.Proofs.Ytljmaicobafgkaa
end
section
/- Layer 12: a message there and back (FramesBack). -/
namespace Go.Proofs.Ytljmaicobafgkaa
open Go.RowKit

/-- What a call of Encode is asked to give, from any world. -/
def EncTo (k f t i : Int) (b o : ByteArray) (c : Int) : Prop := ∀ w : World,
  Calls Try.prog 44 #[.agg #[.int .i64 k, .int .i64 f, .int .i64 t, .int .i64 i, .string b]] w fun e w' => e = .returned (.tuple #[.string o, .int .i64 c]) ∧ Below w.heap.size w w'
def DecTo (s : ByteArray) (k f t i : Int) (b : ByteArray) (c : Int) : Prop := ∀ w : World,
  Calls Try.prog 49 #[.string s] w fun e w' => e = .returned (.tuple #[.agg #[.int .i64 k, .int .i64 f, .int .i64 t, .int .i64 i, .string b], .int .i64 c]) ∧ Below w.heap.size w w'

theorem below_step {B : Nat} {w w1 w2 : World} {o : Obj} (h1 : Below B w w1) (hB : B ≤ w1.heap.size) (h2 : Below (w1.alloc o).heap.size (w1.alloc o) w2) : Below B w w2 :=
  (h1.alloc hB o).trans (h2.mono (by simp; omega))
theorem below_on {B : Nat} {w w1 w2 : World} (h1 : Below B w w1) (hB : B ≤ w1.heap.size) (h2 : Below w1.heap.size w1 w2) : Below B w w2 :=
  h1.trans (h2.mono hB)

set_option maxHeartbeats 4000000 in
set_option maxRecDepth 100000 in
theorem back_00 (ha : Awake12) (k f t i : Int) (b s o : ByteArray) (_c : Int) (k' f' t' i' : Int) (b' : ByteArray) (_c' : Int)
    (hE : EncTo k f t i b o 0) (hD : DecTo o k f t i b 0) (hD' : DecTo s k' f' t' i' b' 0) (hE' : EncTo k' f' t' i' b' s 0) (w : World) (hs : s.size ≤ 10000) :
    Calls Try.prog 9 #[.agg #[.int .i64 k, .int .i64 f, .int .i64 t, .int .i64 i, .string b], .string s] w fun e w' => e = .returned (.bool true) ∧ Below w.heap.size w w' := by
  have HA := hide ha
  have HE := hide hE
  have HD := hide hD
  have HD' := hide hD'
  have HE' := hide hE'
  clear ha hE hD hD' hE'
  go_enter Try.func9, Try.ntmps9
  go_wp2_with fail
  refine (HE.out _).mono ?_
  rintro e w1 ⟨rfl, hb1⟩
  have hm := obj_below (obj_new w _) hb1
  have HM := hide hm
  have HB1 := hide (below_step (Below.refl _ _) (Nat.le_refl _) hb1)
  have hz1 := HB1.out.size
  clear hb1 hm
  go_wp2_with fail
  refine (HD.out _).mono ?_
  rintro e w2 ⟨rfl, hb2⟩
  have hm2 := obj_below HM.out hb2
  have HM2 := hide hm2
  have HB2 := hide (below_on HB1.out hz1 hb2)
  have hz2 := HB2.out.size
  have z0 := obj_cell hm2 0
  have z1 := obj_cell hm2 1
  have z2 := obj_cell hm2 2
  have z3 := obj_cell hm2 3
  have z4 := obj_cell hm2 4
  simp only [List.getElem?_toArray, List.getElem?_cons_zero, List.getElem?_cons_succ] at z0 z1 z2 z3 z4
  have l2 := obj_lt hm2
  clear hb2 hm2
  go_wp2_with fail
  refine (HD'.out _).mono ?_
  rintro e w3 ⟨rfl, hb3⟩
  have HB3 := hide (below_step HB2.out hz2 hb3)
  have hz3 := HB3.out.size
  clear hb3
  go_wp2_with fail
  refine (HE'.out _).mono ?_
  rintro e w4 ⟨rfl, hb4⟩
  have HB4 := hide (below_step HB3.out hz3 hb4)
  have hz4 := HB4.out.size
  clear hb4
  go_wp2_with fail
  refine (HA.out _).mono ?_
  rintro e w5 ⟨rfl, hb5⟩
  go_wp2
  go_ret
  exact ⟨rfl, below_on HB4.out hz4 hb5⟩
set_option maxHeartbeats 4000000 in
set_option maxRecDepth 100000 in
theorem back_01 (ha : Awake12) (k f t i : Int) (b s o : ByteArray) (_c : Int) (k' f' t' i' : Int) (b' : ByteArray) (c' : Int)
    (hE : EncTo k f t i b o 0) (hD : DecTo o k f t i b 0) (hD' : DecTo s k' f' t' i' b' c') (hc' : c' ≠ 0) (w : World) (hs : s.size ≤ 10000) :
    Calls Try.prog 9 #[.agg #[.int .i64 k, .int .i64 f, .int .i64 t, .int .i64 i, .string b], .string s] w fun e w' => e = .returned (.bool true) ∧ Below w.heap.size w w' := by
  have hn3 : (c' == 0) = false := by simp [hc']
  have hn4 : (c' != 0) = true := by simp [hc']
  have HA := hide ha
  have HE := hide hE
  have HD := hide hD
  have HD' := hide hD'
  clear ha hE hD hD' hc'
  go_enter Try.func9, Try.ntmps9
  go_wp2_with fail
  refine (HE.out _).mono ?_
  rintro e w1 ⟨rfl, hb1⟩
  have hm := obj_below (obj_new w _) hb1
  have HM := hide hm
  have HB1 := hide (below_step (Below.refl _ _) (Nat.le_refl _) hb1)
  have hz1 := HB1.out.size
  clear hb1 hm
  go_wp2_with fail
  refine (HD.out _).mono ?_
  rintro e w2 ⟨rfl, hb2⟩
  have hm2 := obj_below HM.out hb2
  have HM2 := hide hm2
  have HB2 := hide (below_on HB1.out hz1 hb2)
  have hz2 := HB2.out.size
  have z0 := obj_cell hm2 0
  have z1 := obj_cell hm2 1
  have z2 := obj_cell hm2 2
  have z3 := obj_cell hm2 3
  have z4 := obj_cell hm2 4
  simp only [List.getElem?_toArray, List.getElem?_cons_zero, List.getElem?_cons_succ] at z0 z1 z2 z3 z4
  have l2 := obj_lt hm2
  clear hb2 hm2
  go_wp2_with fail
  refine (HD'.out _).mono ?_
  rintro e w3 ⟨rfl, hb3⟩
  have HB3 := hide (below_step HB2.out hz2 hb3)
  have hz3 := HB3.out.size
  clear hb3
  go_wp2_with fail
  refine (HA.out _).mono ?_
  rintro e w5 ⟨rfl, hb5⟩
  go_wp2
  go_ret
  exact ⟨rfl, below_step HB3.out hz3 hb5⟩
set_option maxHeartbeats 4000000 in
set_option maxRecDepth 100000 in
theorem back_10 (ha : Awake12) (k f t i : Int) (b s o : ByteArray) (c : Int) (k' f' t' i' : Int) (b' : ByteArray) (_c' : Int)
    (hE : EncTo k f t i b o c) (hc : c ≠ 0) (hD' : DecTo s k' f' t' i' b' 0) (hE' : EncTo k' f' t' i' b' s 0) (w : World) (hs : s.size ≤ 10000) :
    Calls Try.prog 9 #[.agg #[.int .i64 k, .int .i64 f, .int .i64 t, .int .i64 i, .string b], .string s] w fun e w' => e = .returned (.bool true) ∧ Below w.heap.size w w' := by
  have hn1 : (c == 0) = false := by simp [hc]
  have hn2 : (c != 0) = true := by simp [hc]
  have HA := hide ha
  have HE := hide hE
  have HD' := hide hD'
  have HE' := hide hE'
  clear ha hE hD' hE' hc
  go_enter Try.func9, Try.ntmps9
  go_wp2_with fail
  refine (HE.out _).mono ?_
  rintro e w1 ⟨rfl, hb1⟩
  have HB2 := hide (below_step (Below.refl _ _) (Nat.le_refl _) hb1)
  have hz2 := HB2.out.size
  clear hb1
  go_wp2_with fail
  refine (HD'.out _).mono ?_
  rintro e w3 ⟨rfl, hb3⟩
  have HB3 := hide (below_on HB2.out hz2 hb3)
  have hz3 := HB3.out.size
  clear hb3
  go_wp2_with fail
  refine (HE'.out _).mono ?_
  rintro e w4 ⟨rfl, hb4⟩
  have HB4 := hide (below_step HB3.out hz3 hb4)
  have hz4 := HB4.out.size
  clear hb4
  go_wp2_with fail
  refine (HA.out _).mono ?_
  rintro e w5 ⟨rfl, hb5⟩
  go_wp2
  go_ret
  exact ⟨rfl, below_on HB4.out hz4 hb5⟩
set_option maxHeartbeats 4000000 in
set_option maxRecDepth 100000 in
theorem back_11 (ha : Awake12) (k f t i : Int) (b s o : ByteArray) (c : Int) (k' f' t' i' : Int) (b' : ByteArray) (c' : Int)
    (hE : EncTo k f t i b o c) (hc : c ≠ 0) (hD' : DecTo s k' f' t' i' b' c') (hc' : c' ≠ 0) (w : World) (hs : s.size ≤ 10000) :
    Calls Try.prog 9 #[.agg #[.int .i64 k, .int .i64 f, .int .i64 t, .int .i64 i, .string b], .string s] w fun e w' => e = .returned (.bool true) ∧ Below w.heap.size w w' := by
  have hn1 : (c == 0) = false := by simp [hc]
  have hn2 : (c != 0) = true := by simp [hc]
  have hn3 : (c' == 0) = false := by simp [hc']
  have hn4 : (c' != 0) = true := by simp [hc']
  have HA := hide ha
  have HE := hide hE
  have HD' := hide hD'
  clear ha hE hD' hc hc'
  go_enter Try.func9, Try.ntmps9
  go_wp2_with fail
  refine (HE.out _).mono ?_
  rintro e w1 ⟨rfl, hb1⟩
  have HB2 := hide (below_step (Below.refl _ _) (Nat.le_refl _) hb1)
  have hz2 := HB2.out.size
  clear hb1
  go_wp2_with fail
  refine (HD'.out _).mono ?_
  rintro e w3 ⟨rfl, hb3⟩
  have HB3 := hide (below_on HB2.out hz2 hb3)
  have hz3 := HB3.out.size
  clear hb3
  go_wp2_with fail
  refine (HA.out _).mono ?_
  rintro e w5 ⟨rfl, hb5⟩
  go_wp2
  go_ret
  exact ⟨rfl, below_step HB3.out hz3 hb5⟩
set_option maxHeartbeats 4000000 in
set_option maxRecDepth 100000 in
theorem back_far (ha : Awake12) (k f t i : Int) (b s : ByteArray) (w : World) (hs : 10000 < s.size) :
    Calls Try.prog 9 #[.agg #[.int .i64 k, .int .i64 f, .int .i64 t, .int .i64 i, .string b], .string s] w fun e w' => e = .returned (.bool true) ∧ Below w.heap.size w w' := by
  have HA := hide ha
  clear ha
  go_enter Try.func9, Try.ntmps9
  go_wp2_with fail
  refine (HA.out _).mono ?_
  rintro e w5 ⟨rfl, hb5⟩
  go_wp2
  go_ret
  exact ⟨rfl, below_step (Below.refl _ _) (Nat.le_refl _) hb5⟩
end Go.Proofs.Ytljmaicobafgkaa
end
