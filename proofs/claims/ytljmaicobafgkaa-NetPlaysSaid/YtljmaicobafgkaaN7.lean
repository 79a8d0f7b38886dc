/- A join of 6 texts of this claim: Pure2, ByteBuf, FrBack, FrWalks2, FrByte, FrWalks3. Conditions: none of their own. -/
import Derived.Test.YtljmaicobafgkaaN6
import Derived.Lib.ConvBytes
import Derived.Laws.Strings
section
/- Plain facts: what is read is just its bytes; a byte turned turns the sum. -/
namespace Go.Proofs.Ytljmaicobafgkaa
open Go.RowKit

theorem ofNat_toNat (b : UInt8) : UInt8.ofNat b.toNat = b := by simp
theorem ub_toNat (b : UInt8) : ub (b.toNat : Int) = b := by
  have := b.toNat_lt
  unfold ub
  rw [show ((b.toNat : Int) % 256).toNat = b.toNat from by omega]
  exact ofNat_toNat b

/-- What is read as a number is that number's bytes. -/
theorem grpR_inv : ∀ (l : List UInt8) (k U : Nat) (v : Int) (n : Nat), U < 2 ^ (7 * k) → grpR l k (U : Int) = some (v, n) →
    ∃ x : Nat, v = ((U + x * 2 ^ (7 * k) : Nat) : Int) ∧ U + x * 2 ^ (7 * k) < 18446744073709551616 ∧ (0 < k → 0 < x) ∧ (numN x).length + k = n ∧ l = numN x ++ l.drop (n - k)
  | [], k, U, v, n, _, h => by simp [grpR] at h
  | b :: r, k, U, v, n, hU, h => by
    have hbl := b.toNat_lt
    have hpos : 0 < 2 ^ (7 * k) := Nat.two_pow_pos _
    rw [grpR] at h
    split at h
    · cases h
    · rename_i hk10
      split at h
      · rename_i hb128
        have e1 : 2 ^ (7 * (k + 1)) = 128 * 2 ^ (7 * k) := by rw [show 7 * (k + 1) = 7 * k + 7 from by omega, Nat.pow_add]; omega
        have h8 : k ≤ 8 := by
          rcases Nat.lt_or_ge 8 k with h9 | h9
          · have hk9 : k = 9 := by omega
            subst hk9
            rw [grp_over] at h
            cases h
          · exact h9
        have hle : 2 ^ (7 * (k + 1)) ≤ 2 ^ 63 := Nat.pow_le_pow_right (by decide) (by omega)
        have hmul : b.toNat % 128 * 2 ^ (7 * k) ≤ 127 * 2 ^ (7 * k) := Nat.mul_le_mul_right _ (by omega)
        have hfit : U + b.toNat % 128 * 2 ^ (7 * k) < 2 ^ (7 * (k + 1)) := by omega
        rw [gStep_add U (b.toNat % 128) k b rfl hU (by omega)] at h
        obtain ⟨x, hv, hlt, hx, hn, hl⟩ := grpR_inv r (k + 1) _ v n hfit h
        have hx0 := hx (by omega)
        have ex : (x * 128 + b.toNat % 128) * 2 ^ (7 * k) = b.toNat % 128 * 2 ^ (7 * k) + x * 2 ^ (7 * (k + 1)) := by
          rw [e1, Nat.add_mul, ← Nat.mul_assoc]
          omega
        have hbig : ¬ x * 128 + b.toNat % 128 < 128 := by omega
        have enum : numN (x * 128 + b.toNat % 128) = b :: numN x := by
          rw [numN_large hbig]
          rw [show (x * 128 + b.toNat % 128) / 128 = x from by omega, show (x * 128 + b.toNat % 128) % 128 + 128 = b.toNat from by omega, ofNat_toNat]
        refine ⟨x * 128 + b.toNat % 128, by rw [hv, ex]; congr 1; omega, by rw [ex]; omega, fun _ => by omega, by rw [enum, List.length_cons]; omega, ?_⟩
        rw [enum, List.cons_append]
        have hnk : n - k = (n - (k + 1)) + 1 := by have := numN_pos x; omega
        rw [hnk, List.drop_succ_cons, ← hl]
      · split at h
        · cases h
        · rename_i hb128 hbad
          have hb : ¬ 128 ≤ b.toNat := hb128
          have hfit : U + b.toNat * 2 ^ (7 * k) < 18446744073709551616 := by
            rcases Nat.lt_or_ge 8 k with h9 | h9
            · have hk9 : k = 9 := by omega
              subst hk9
              have hb1 : b.toNat ≤ 1 := by
                rcases Nat.lt_or_ge 1 b.toNat with hh | hh
                · exact absurd (.inr ⟨rfl, hh⟩) hbad
                · exact hh
              have h2 : b.toNat * 2 ^ (7 * 9) ≤ 1 * 2 ^ (7 * 9) := Nat.mul_le_mul_right _ hb1
              have h3 : (2 : Nat) ^ (7 * 9) = 9223372036854775808 := by decide
              omega
            · have hle : 2 ^ (7 * k) ≤ 2 ^ 56 := Nat.pow_le_pow_right (by decide) (by omega)
              have hmul : b.toNat * 2 ^ (7 * k) ≤ 127 * 2 ^ (7 * k) := Nat.mul_le_mul_right _ (by omega)
              have h3 : (2 : Nat) ^ 56 = 72057594037927936 := by decide
              omega
          rw [gStep_add U b.toNat k b (by omega) hU hfit] at h
          simp only [Option.some.injEq, Prod.mk.injEq] at h
          obtain ⟨rfl, rfl⟩ := h
          refine ⟨b.toNat, rfl, hfit, fun hk => ?_, ?_, ?_⟩
          · rcases Nat.eq_zero_or_pos b.toNat with h0 | h0
            · exact absurd (.inl ⟨hk, h0⟩) hbad
            · exact h0
          · rw [numN_small (by omega)]
            simp
            omega
          · rw [numN_small (by omega), ofNat_toNat, show k + 1 - k = 1 from by omega]
            rfl

theorem zz_unz (x : Nat) : zz (unz (x : Int)) = x := by
  unfold zz unz
  split <;> split <;> omega
theorem unz_range (x : Nat) (hx : x < 18446744073709551616) : -9223372036854775808 ≤ unz (x : Int) ∧ unz (x : Int) ≤ 9223372036854775807 := by
  unfold unz
  split <;> omega
theorem rInt_inv {l r : List UInt8} {n : Int} (h : rInt (some l) = (n, some r)) : l = num n ++ r ∧ -9223372036854775808 ≤ n ∧ n ≤ 9223372036854775807 := by
  simp only [rInt] at h
  split at h
  · simp at h
  · rename_i v k hg
    simp only [Prod.mk.injEq, Option.some.injEq] at h
    obtain ⟨rfl, rfl⟩ := h
    obtain ⟨x, hv, hlt, _, hn, hl⟩ := grpR_inv l 0 0 v k (by decide) hg
    have hx : v = (x : Int) := by rw [hv]; simp
    have hxl : x < 18446744073709551616 := by simpa using hlt
    subst hx
    have hr := unz_range x hxl
    refine ⟨?_, hr.1, hr.2⟩
    unfold num
    rw [zz_unz]
    exact hl
theorem rByte_inv {l r : List UInt8} (h : (rByte (some l)).2 = some r) : ∃ b : UInt8, l = b :: r ∧ (rByte (some l)).1 = (b.toNat : Int) := by
  rcases l with _ | ⟨b, l⟩
  · simp [rByte] at h
  · simp only [rByte, Option.some.injEq] at h
    subst h
    exact ⟨b, rfl, rfl⟩
theorem rText_inv {l r : List UInt8} (h : (rText (some l)).2 = some r) : l = textB (rText (some l)).1 ++ r := by
  obtain ⟨n, q, hq⟩ : ∃ n q, rInt (some l) = (n, q) := ⟨_, _, rfl⟩
  unfold rText at h ⊢
  rw [hq] at h ⊢
  rcases q with _ | q
  · simp at h
  · simp only at h ⊢
    obtain ⟨hl, _, _⟩ := rInt_inv hq
    by_cases hc : 0 ≤ n ∧ n ≤ (q.length : Int)
    · rw [if_pos hc] at h ⊢
      simp only [Option.some.injEq] at h
      subst h
      simp only [textB]
      rw [List.length_take, show ((min n.toNat q.length : Nat) : Int) = n from by omega, List.append_assoc, List.take_append_drop]
      exact hl
    · rw [if_neg hc] at h
      simp at h
/-- Bytes that are read as a message are just its. -/
theorem enc_dec (t : List UInt8) (h : dOk t) : frB (dK t) (dF t) (dT t) (dI t) (dB t) = t ∧ msgOk (dK t) (dF t) (dT t) (dI t) ∧ (dB t).length ≤ 4096 := by
  obtain ⟨h5, hc⟩ := h
  have hm : msgOk (dK t) (dF t) (dT t) (dI t) ∧ (dB t).length ≤ 4096 := by
    unfold chk at hc
    by_cases h1 : msgOk (dK t) (dF t) (dT t) (dI t)
    · rw [if_pos h1] at hc
      by_cases h2 : 4096 < (dB t).length
      · rw [if_pos h2] at hc
        omega
      · exact ⟨h1, by omega⟩
    · rw [if_neg h1] at hc
      omega
  refine ⟨?_, hm⟩
  have e4 : ∃ r4, d4 t = some r4 := by
    rcases h4 : d4 t with _ | r4
    · unfold d5 at h5
      rw [h4] at h5
      simp [rText, rInt] at h5
    · exact ⟨r4, rfl⟩
  obtain ⟨r4, e4⟩ := e4
  have e3 : ∃ r3, d3 t = some r3 := by
    rcases h3 : d3 t with _ | r3
    · unfold d4 at e4
      rw [h3] at e4
      simp [rInt] at e4
    · exact ⟨r3, rfl⟩
  obtain ⟨r3, e3⟩ := e3
  have e2 : ∃ r2, d2 t = some r2 := by
    rcases h2 : d2 t with _ | r2
    · unfold d3 at e3
      rw [h2] at e3
      simp [rByte] at e3
    · exact ⟨r2, rfl⟩
  obtain ⟨r2, e2⟩ := e2
  have e1 : ∃ r1, d1 t = some r1 := by
    rcases h1 : d1 t with _ | r1
    · unfold d2 at e2
      rw [h1] at e2
      simp [rByte] at e2
    · exact ⟨r1, rfl⟩
  obtain ⟨r1, e1⟩ := e1
  obtain ⟨b1, ht, hb1⟩ := rByte_inv (l := t) (r := r1) (by exact e1)
  obtain ⟨b2, hr1, hb2⟩ := rByte_inv (l := r1) (r := r2) (by have := e2; unfold d2 at this; rw [e1] at this; exact this)
  obtain ⟨b3, hr2, hb3⟩ := rByte_inv (l := r2) (r := r3) (by have := e3; unfold d3 at this; rw [e2] at this; exact this)
  have hi : rInt (some r3) = (dI t, some r4) := by
    have h1 : dI t = (rInt (some r3)).1 := by unfold dI; rw [e3]
    have h2 : (rInt (some r3)).2 = some r4 := by have := e4; unfold d4 at this; rw [e3] at this; exact this
    rw [h1, ← h2]
  obtain ⟨hr3, _, _⟩ := rInt_inv hi
  have hx : (rText (some r4)).2 = some [] := by have := h5; unfold d5 at this; rw [e4] at this; exact this
  have hr4 := rText_inv hx
  have hB : dB t = (rText (some r4)).1 := by unfold dB; rw [e4]
  have hK : dK t = (b1.toNat : Int) := hb1
  have hF : dF t = (b2.toNat : Int) := by unfold dF; rw [e1]; exact hb2
  have hT : dT t = (b3.toNat : Int) := by unfold dT; rw [e2]; exact hb3
  rw [frB_eq, hK, hF, hT, ub_toNat, ub_toNat, ub_toNat, hB]
  rw [List.append_nil] at hr4
  rw [← hr4, ← hr3, ← hr2, ← hr1, ← ht]
theorem openL_inv {l t : List UInt8} (h : openL l = some t) : l = t ++ le4 (crc t) := by
  unfold openL at h
  split at h
  · rename_i he
    simp only [Option.some.injEq] at h
    rw [← h, he, List.take_append_drop]
  · cases h

/-! A byte turned. -/
theorem xor_u32 (a b : Nat) (ha : a < 4294967296) (hb : b < 4294967296) : bits .xor .u32 (a : Int) (b : Int) = ((a ^^^ b : Nat) : Int) := by
  show IntKind.u32.wrap ((BitVec.ofInt 32 (a : Int) ^^^ BitVec.ofInt 32 (b : Int)).toNat : Int) = _
  have h : (BitVec.ofInt 32 (a : Int) ^^^ BitVec.ofInt 32 (b : Int)).toNat = a ^^^ b := by
    rw [BitVec.toNat_xor, BitVec.ofInt_natCast, BitVec.toNat_ofNat, BitVec.ofInt_natCast, BitVec.toNat_ofNat, Nat.mod_eq_of_lt (by omega), Nat.mod_eq_of_lt (by omega)]
  have hx : a ^^^ b < 2 ^ 32 := Nat.xor_lt_two_pow (by omega) (by omega)
  rw [h]
  show ((a ^^^ b : Nat) : Int) % 4294967296 = _
  omega
theorem xor_cancel (a b c : Nat) (h : a ^^^ c = b ^^^ c) : a = b := by
  have h2 := congrArg (· ^^^ c) h
  simpa [Nat.xor_assoc] using h2
theorem bitStep_inj (a b : Nat) (ha : a < 4294967296) (hb : b < 4294967296) (h : bitStep (a : Int) = bitStep (b : Int)) : a = b := by
  have key : ∀ n : Nat, n < 4294967296 → (n % 2 = 1 → bitStep (n : Int) = ((n / 2 ^^^ 3988292384 : Nat) : Int)) ∧ (n % 2 = 0 → bitStep (n : Int) = ((n / 2 : Nat) : Int)) := fun n hn => by
    have ha := and1_u32 n
    refine ⟨fun h => ?_, fun h => ?_⟩
    · rw [← bitStep_odd (n : Int) (by omega) (by rw [ha, h]; rfl), show ((n : Int) / 2) = ((n / 2 : Nat) : Int) from by omega]
      exact xor_u32 (n / 2) 3988292384 (by omega) (by decide)
    · rw [← bitStep_even (n : Int) (by omega) (by omega) (by rw [ha, h]; rfl)]
      omega
  have hi : ∀ n : Nat, n < 2147483648 → 2147483648 ≤ n ^^^ 3988292384 := fun n hn => by
    rcases Nat.lt_or_ge (n ^^^ 3988292384) 2147483648 with hlt | hge
    · exfalso
      have h1 : n ^^^ (n ^^^ 3988292384) < 2 ^ 31 := Nat.xor_lt_two_pow (by omega) (by omega)
      rw [← Nat.xor_assoc, Nat.xor_self, Nat.zero_xor] at h1
      exact absurd h1 (by decide)
    · exact hge
  obtain ⟨a1, a0⟩ := key a ha
  obtain ⟨b1, b0⟩ := key b hb
  rcases Nat.mod_two_eq_zero_or_one a with ea | ea <;> rcases Nat.mod_two_eq_zero_or_one b with eb | eb
  · rw [a0 ea, b0 eb] at h
    omega
  · rw [a0 ea, b1 eb] at h
    have := hi (b / 2) (by omega)
    omega
  · rw [a1 ea, b0 eb] at h
    have := hi (a / 2) (by omega)
    omega
  · rw [a1 ea, b1 eb] at h
    have h2 : a / 2 ^^^ 3988292384 = b / 2 ^^^ 3988292384 := by omega
    have := xor_cancel _ _ _ h2
    omega
theorem bitSteps_inj : ∀ (k : Nat) (a b : Int), 0 ≤ a → a < 4294967296 → 0 ≤ b → b < 4294967296 → bitSteps k a = bitSteps k b → a = b
  | 0, _, _, _, _, _, _, h => h
  | k + 1, a, b, ha0, ha1, hb0, hb1, h => by
    have h1 := bitSteps_inj k (bitStep a) (bitStep b) (bits_u32 _ _ _).1 (bits_u32 _ _ _).2 (bits_u32 _ _ _).1 (bits_u32 _ _ _).2 h
    obtain ⟨n, rfl⟩ : ∃ n : Nat, a = n := ⟨a.toNat, by omega⟩
    obtain ⟨m, rfl⟩ : ∃ m : Nat, b = m := ⟨b.toNat, by omega⟩
    rw [bitStep_inj n m (by omega) (by omega) h1]
theorem xor_byte_inj {c : Int} {x y : UInt8} (h0 : 0 ≤ c) (h1 : c < 4294967296) (h : bits .xor .u32 c ((x.toNat : Int) % 4294967296) = bits .xor .u32 c ((y.toNat : Int) % 4294967296)) : x = y := by
  obtain ⟨n, rfl⟩ : ∃ n : Nat, c = n := ⟨c.toNat, by omega⟩
  have hx := x.toNat_lt
  have hy := y.toNat_lt
  rw [show ((x.toNat : Int) % 4294967296) = (x.toNat : Int) from by omega, show ((y.toNat : Int) % 4294967296) = (y.toNat : Int) from by omega, xor_u32 _ _ (by omega) (by omega), xor_u32 _ _ (by omega) (by omega)] at h
  have h2 : x.toNat ^^^ n = y.toNat ^^^ n := by rw [Nat.xor_comm x.toNat, Nat.xor_comm y.toNat]; omega
  have := xor_cancel _ _ _ h2
  exact UInt8.toNat_inj.mp this
theorem xor_state_inj {c d : Int} {x : UInt8} (h0 : 0 ≤ c) (h1 : c < 4294967296) (h2 : 0 ≤ d) (h3 : d < 4294967296) (h : bits .xor .u32 c ((x.toNat : Int) % 4294967296) = bits .xor .u32 d ((x.toNat : Int) % 4294967296)) : c = d := by
  obtain ⟨n, rfl⟩ : ∃ n : Nat, c = n := ⟨c.toNat, by omega⟩
  obtain ⟨m, rfl⟩ : ∃ m : Nat, d = m := ⟨d.toNat, by omega⟩
  have hx := x.toNat_lt
  rw [show ((x.toNat : Int) % 4294967296) = (x.toNat : Int) from by omega, xor_u32 _ _ (by omega) (by omega), xor_u32 _ _ (by omega) (by omega)] at h
  have h4 : n ^^^ x.toNat = m ^^^ x.toNat := by omega
  rw [xor_cancel _ _ _ h4]
theorem sumOn_inj : ∀ (q : List UInt8) (c d : Int), 0 ≤ c → c < 4294967296 → 0 ≤ d → d < 4294967296 → sumOn c q = sumOn d q → c = d
  | [], _, _, _, _, _, _, h => h
  | b :: q, c, d, hc0, hc1, hd0, hd1, h => by
    have rc := bitSteps_range 8 (bits .xor .u32 c ((b.toNat : Int) % 4294967296)) (bits_u32 _ _ _).1 (bits_u32 _ _ _).2
    have rd := bitSteps_range 8 (bits .xor .u32 d ((b.toNat : Int) % 4294967296)) (bits_u32 _ _ _).1 (bits_u32 _ _ _).2
    have h1 := sumOn_inj q _ _ rc.1 rc.2 rd.1 rd.2 h
    exact xor_state_inj hc0 hc1 hd0 hd1 (bitSteps_inj 8 _ _ (bits_u32 _ _ _).1 (bits_u32 _ _ _).2 (bits_u32 _ _ _).1 (bits_u32 _ _ _).2 h1)
theorem sumOn_append (c : Int) (p q : List UInt8) : sumOn c (p ++ q) = sumOn (sumOn c p) q := by simp [sumOn]
theorem crc_turn (p q : List UInt8) (x y : UInt8) (h : crc (p ++ x :: q) = crc (p ++ y :: q)) : x = y := by
  have h0 : 0 ≤ sumInit ∧ sumInit < 4294967296 := bits_u32 _ _ _
  have rp := sumOn_range sumInit p h0.1 h0.2
  have r1 := sumOn_range sumInit (p ++ x :: q) h0.1 h0.2
  have r2 := sumOn_range sumInit (p ++ y :: q) h0.1 h0.2
  unfold crc at h
  have h1 : sumOn sumInit (p ++ x :: q) = sumOn sumInit (p ++ y :: q) := by
    obtain ⟨n, hn⟩ : ∃ n : Nat, sumOn sumInit (p ++ x :: q) = n := ⟨_, (Int.toNat_of_nonneg r1.1).symm⟩
    obtain ⟨m, hm⟩ : ∃ m : Nat, sumOn sumInit (p ++ y :: q) = m := ⟨_, (Int.toNat_of_nonneg r2.1).symm⟩
    rw [hn, hm, xor_comm_u32, xor_comm_u32 _ (m : Int), show (IntKind.u32.max) = ((4294967295 : Nat) : Int) from by decide, xor_u32 _ _ (by omega) (by decide), xor_u32 _ _ (by omega) (by decide)] at h
    have h4 : n ^^^ 4294967295 = m ^^^ 4294967295 := by omega
    rw [hn, hm, xor_cancel _ _ _ h4]
  rw [sumOn_append, sumOn_append] at h1
  have b1 := bitSteps_range 8 (bits .xor .u32 (sumOn sumInit p) ((x.toNat : Int) % 4294967296)) (bits_u32 _ _ _).1 (bits_u32 _ _ _).2
  have b2 := bitSteps_range 8 (bits .xor .u32 (sumOn sumInit p) ((y.toNat : Int) % 4294967296)) (bits_u32 _ _ _).1 (bits_u32 _ _ _).2
  have h2 := sumOn_inj q _ _ b1.1 b1.2 b2.1 b2.2 h1
  exact xor_byte_inj rp.1 rp.2 (bitSteps_inj 8 _ _ (bits_u32 _ _ _).1 (bits_u32 _ _ _).2 (bits_u32 _ _ _).1 (bits_u32 _ _ _).2 h2)
theorem le4_inj {a b : Int} (ha0 : 0 ≤ a) (ha1 : a < 4294967296) (hb0 : 0 ≤ b) (hb1 : b < 4294967296) (h : le4 a = le4 b) : a = b := by
  unfold le4 at h
  simp only [List.cons.injEq, and_true] at h
  obtain ⟨h1, h2, h3, h4⟩ := h
  have e1 := congrArg (fun x : UInt8 => (x.toNat : Int)) h1
  have e2 := congrArg (fun x : UInt8 => (x.toNat : Int)) h2
  have e3 := congrArg (fun x : UInt8 => (x.toNat : Int)) h3
  have e4 := congrArg (fun x : UInt8 => (x.toNat : Int)) h4
  simp only [ub_val] at e1 e2 e3 e4
  omega
/-- Sealed bytes of which one is another one do not open. -/
theorem open_turned (t : List UInt8) (i : Nat) (y : UInt8) (hi : i < (t ++ le4 (crc t)).length) (hy : (t ++ le4 (crc t))[i] ≠ y) : openL ((t ++ le4 (crc t)).set i y) = none := by
  have hlen : ((t ++ le4 (crc t)).set i y).length - 4 = t.length := by rw [List.length_set, List.length_append, le4_length]; omega
  unfold openL
  rw [hlen]
  rw [if_neg]
  intro h
  by_cases hit : i < t.length
  · rw [List.set_append_left _ _ hit] at h
    have hl : (t.set i y).length = t.length := List.length_set ..
    rw [← hl, List.take_left, List.drop_left] at h
    have hc := le4_inj (crc_range _).1 (crc_range _).2 (crc_range _).1 (crc_range _).2 h
    have e1 : t = t.take i ++ t[i] :: t.drop (i + 1) := by rw [List.getElem_cons_drop, List.take_append_drop]
    have e2 : t.set i y = t.take i ++ y :: t.drop (i + 1) := List.set_eq_take_append_cons_drop .. |>.trans (by rw [if_pos hit])
    rw [e2] at hc
    have e3 : crc t = crc (t.take i ++ t[i] :: t.drop (i + 1)) := congrArg crc e1
    rw [e3] at hc
    have := crc_turn _ _ _ _ hc
    apply hy
    rw [List.getElem_append_left hit]
    exact this.symm
  · rw [List.set_append_right _ _ (by omega), List.take_left, List.drop_left] at h
    have hj : i - t.length < (le4 (crc t)).length := by rw [List.length_append] at hi; omega
    have h2 : (le4 (crc t))[i - t.length] = y := by
      have h3 := List.getElem_set_self (l := le4 (crc t)) (i := i - t.length) (a := y) (by simpa using hj)
      have h4 : ((le4 (crc t)).set (i - t.length) y)[i - t.length]'(by simpa using hj) = (le4 (crc t))[i - t.length] := by
        simp only [← h]
      rw [← h4]
      exact h3
    apply hy
    rw [List.getElem_append_right (by omega)]
    exact h2
end Go.Proofs.Ytljmaicobafgkaa
end
section
/- []byte(s): its row; a byte of it set; string(b) of it. -/
namespace Go.Proofs.Ytljmaicobafgkaa
open Go.RowKit

theorem conv_to (w : World) (s : ByteArray) : (convert 9 77 (.string s)).run Try.prog w = .ok (.slice (some ⟨w.heap.size, 0, none⟩) s.size (grownCap w s.size 0 5)) (Lib.bytesWorld w 5 s) :=
  Lib.run_convert_string_bytes w 9 77 5 s Try.underlying9 Try.underlying77 Try.underlying5
/-- A row of bytes with a mark beyond them. -/
def Buf (w : World) (g : Nat) (l : List UInt8) : Prop := ∃ (cs : Array Value) (k : Nat), w.heap[g]? = some (.cells cs 5 (k, k + 1)) ∧ l.length ≤ k ∧ k = cs.size ∧ ∀ (j : Nat) (u : Value), (byteVals l)[j]? = some u → cs[j]? = some u
theorem buf_new (w : World) (s : ByteArray) : Buf (Lib.bytesWorld w 5 s) w.heap.size s.data.toList := by
  refine ⟨_, _, Lib.bytesWorld_at_new w 5 s, ?_, rfl, fun j u hu => ?_⟩
  · simp [Lib.bytesCells]
  · have hj : j < s.data.toList.length := by
      have := (List.getElem?_eq_some_iff.1 hu).1
      simpa [byteVals] using this
    have h1 := Lib.bytesWorld_cell w 5 s j (by rw [size_list]; exact hj)
    have h2 := obj_cell (Lib.bytesWorld_at_new w 5 s) j
    rw [h2] at h1
    rw [h1, ← hu, byteVals_get hj]
    have hj2 : j < s.data.size := by simpa using hj
    simp only [List.getD, Array.getElem?_toList, Array.getElem?_eq_getElem hj2, Option.getD_some, Array.getElem_toList]
theorem buf_below (w : World) (s : ByteArray) {B : Nat} (hB : B ≤ w.heap.size) : Below B w (Lib.bytesWorld w 5 s) := by
  refine ⟨rfl, rfl, rfl, by rw [Lib.bytesWorld_size]; omega, fun k hk => Lib.bytesWorld_at_old w 5 s k (by omega)⟩
theorem Buf.cell {w : World} {g : Nat} {l : List UInt8} (h : Buf w g l) {j : Nat} (hj : j < l.length) : w.cell? ⟨g, j, none⟩ = some (.int .u8 (l[j].toNat : Int)) := by
  obtain ⟨cs, k, hh, _, _, hc⟩ := h
  rw [obj_cell hh]
  exact hc j _ (byteVals_get hj)
theorem Buf.thawed {w : World} {g : Nat} {l : List UInt8} (h : Buf w g l) {j : Nat} (hj : j < l.length) : w.frozen? ⟨g, j, none⟩ = false := by
  obtain ⟨cs, k, hh, hl, _, _⟩ := h
  simp [World.frozen?, hh]
  omega
theorem Buf.conv {w : World} {g : Nat} {l : List UInt8} (h : Buf w g l) (c : Nat) : (convert 77 9 (.slice (some ⟨g, 0, none⟩) l.length c)).run Try.prog w = .ok (.string ⟨l.toArray⟩) w := by
  obtain ⟨cs, k, hh, hl, _, hc⟩ := h
  refine conv_str l rfl (fun ad e j u hu => ?_) (fun e => by cases e)
  cases e
  rw [add_plain', Nat.zero_add, obj_cell hh]
  exact hc j u hu
theorem Buf.set {w : World} {g : Nat} {l : List UInt8} (h : Buf w g l) {i : Nat} (z : UInt8) : Buf (w.setCell ⟨g, i, none⟩ (.int .u8 (z.toNat : Int))) g (l.set i z) := by
  obtain ⟨cs, k, hh, hl, hk, hc⟩ := h
  refine ⟨cs.setIfInBounds i (.int .u8 (z.toNat : Int)), k, ?_, by simpa using hl, by simpa using hk, fun j u hu => ?_⟩
  · simp [World.setCell, Array.getElem?_modify, hh]
  · by_cases hj : j = i
    · subst hj
      have hlt : j < (l.set j z).length := by
        have := (List.getElem?_eq_some_iff.1 hu).1
        simpa [byteVals] using this
      rw [byteVals_get hlt] at hu
      simp at hu hlt
      rw [Array.getElem?_setIfInBounds_self_of_lt (by omega)]
      rw [hu]
    · rw [Array.getElem?_setIfInBounds_ne (by omega)]
      refine hc j u ?_
      rw [← hu]
      simp [byteVals, List.getElem?_set_ne (Ne.symm hj)]
theorem Buf.drew {w : World} {g : Nat} {l : List UInt8} (h : Buf w g l) : Buf w.drew g l := h
end Go.Proofs.Ytljmaicobafgkaa
end
section
/- Layer 12: a message there and back (FramesBack). -/
namespace Go.Proofs.Ytljmaicobafgkaa
open Go.RowKit

/-- What a call of Encode is asked to give, from any world. -/
def EncTo (k f t i : Int) (b o : ByteArray) (c : Int) : Prop := ∀ w : World,
  Calls Try.prog 44 #[.agg #[.int .i64 k, .int .i64 f, .int .i64 t, .int .i64 i, .string b]] w fun e w' => e = .returned (.tuple #[.string o, .int .i64 c]) ∧ Below w.heap.size w w'
def DecTo (s : ByteArray) (k f t i : Int) (b : ByteArray) (c : Int) : Prop := ∀ w : World,
  Calls Try.prog 49 #[.string s] w fun e w' => e = .returned (.tuple #[.agg #[.int .i64 k, .int .i64 f, .int .i64 t, .int .i64 i, .string b], .int .i64 c]) ∧ Below w.heap.size w w'

theorem below_step {B : Nat} {w w1 w2 : World} {o : Obj} (h1 : Below B w w1) (hB : B ≤ w1.heap.size) (h2 : Below (w1.alloc o).heap.size (w1.alloc o) w2) : Below B w w2 :=
  (h1.alloc hB o).trans (h2.mono (by simp; omega))
theorem below_on {B : Nat} {w w1 w2 : World} (h1 : Below B w w1) (hB : B ≤ w1.heap.size) (h2 : Below w1.heap.size w1 w2) : Below B w w2 :=
  h1.trans (h2.mono hB)

set_option maxHeartbeats 4000000 in
set_option maxRecDepth 100000 in
theorem back_00 (ha : Awake12) (k f t i : Int) (b s o : ByteArray) (_c : Int) (k' f' t' i' : Int) (b' : ByteArray) (_c' : Int)
    (hE : EncTo k f t i b o 0) (hD : DecTo o k f t i b 0) (hD' : DecTo s k' f' t' i' b' 0) (hE' : EncTo k' f' t' i' b' s 0) (w : World) (hs : s.size ≤ 10000) :
    Calls Try.prog 9 #[.agg #[.int .i64 k, .int .i64 f, .int .i64 t, .int .i64 i, .string b], .string s] w fun e w' => e = .returned (.bool true) ∧ Below w.heap.size w w' := by
  have HA := hide ha
  have HE := hide hE
  have HD := hide hD
  have HD' := hide hD'
  have HE' := hide hE'
  clear ha hE hD hD' hE'
  go_enter Try.func9, Try.ntmps9
  go_wp2_with fail
  refine (HE.out _).mono ?_
  rintro e w1 ⟨rfl, hb1⟩
  have hm := obj_below (obj_new w _) hb1
  have HM := hide hm
  have HB1 := hide (below_step (Below.refl _ _) (Nat.le_refl _) hb1)
  have hz1 := HB1.out.size
  clear hb1 hm
  go_wp2_with fail
  refine (HD.out _).mono ?_
  rintro e w2 ⟨rfl, hb2⟩
  have hm2 := obj_below HM.out hb2
  have HM2 := hide hm2
  have HB2 := hide (below_on HB1.out hz1 hb2)
  have hz2 := HB2.out.size
  have z0 := obj_cell hm2 0
  have z1 := obj_cell hm2 1
  have z2 := obj_cell hm2 2
  have z3 := obj_cell hm2 3
  have z4 := obj_cell hm2 4
  simp only [List.getElem?_toArray, List.getElem?_cons_zero, List.getElem?_cons_succ] at z0 z1 z2 z3 z4
  have l2 := obj_lt hm2
  clear hb2 hm2
  go_wp2_with fail
  refine (HD'.out _).mono ?_
  rintro e w3 ⟨rfl, hb3⟩
  have HB3 := hide (below_step HB2.out hz2 hb3)
  have hz3 := HB3.out.size
  clear hb3
  go_wp2_with fail
  refine (HE'.out _).mono ?_
  rintro e w4 ⟨rfl, hb4⟩
  have HB4 := hide (below_step HB3.out hz3 hb4)
  have hz4 := HB4.out.size
  clear hb4
  go_wp2_with fail
  refine (HA.out _).mono ?_
  rintro e w5 ⟨rfl, hb5⟩
  go_wp2
  go_ret
  exact ⟨rfl, below_on HB4.out hz4 hb5⟩
set_option maxHeartbeats 4000000 in
set_option maxRecDepth 100000 in
theorem back_01 (ha : Awake12) (k f t i : Int) (b s o : ByteArray) (_c : Int) (k' f' t' i' : Int) (b' : ByteArray) (c' : Int)
    (hE : EncTo k f t i b o 0) (hD : DecTo o k f t i b 0) (hD' : DecTo s k' f' t' i' b' c') (hc' : c' ≠ 0) (w : World) (hs : s.size ≤ 10000) :
    Calls Try.prog 9 #[.agg #[.int .i64 k, .int .i64 f, .int .i64 t, .int .i64 i, .string b], .string s] w fun e w' => e = .returned (.bool true) ∧ Below w.heap.size w w' := by
  have hn3 : (c' == 0) = false := by simp [hc']
  have hn4 : (c' != 0) = true := by simp [hc']
  have HA := hide ha
  have HE := hide hE
  have HD := hide hD
  have HD' := hide hD'
  clear ha hE hD hD' hc'
  go_enter Try.func9, Try.ntmps9
  go_wp2_with fail
  refine (HE.out _).mono ?_
  rintro e w1 ⟨rfl, hb1⟩
  have hm := obj_below (obj_new w _) hb1
  have HM := hide hm
  have HB1 := hide (below_step (Below.refl _ _) (Nat.le_refl _) hb1)
  have hz1 := HB1.out.size
  clear hb1 hm
  go_wp2_with fail
  refine (HD.out _).mono ?_
  rintro e w2 ⟨rfl, hb2⟩
  have hm2 := obj_below HM.out hb2
  have HM2 := hide hm2
  have HB2 := hide (below_on HB1.out hz1 hb2)
  have hz2 := HB2.out.size
  have z0 := obj_cell hm2 0
  have z1 := obj_cell hm2 1
  have z2 := obj_cell hm2 2
  have z3 := obj_cell hm2 3
  have z4 := obj_cell hm2 4
  simp only [List.getElem?_toArray, List.getElem?_cons_zero, List.getElem?_cons_succ] at z0 z1 z2 z3 z4
  have l2 := obj_lt hm2
  clear hb2 hm2
  go_wp2_with fail
  refine (HD'.out _).mono ?_
  rintro e w3 ⟨rfl, hb3⟩
  have HB3 := hide (below_step HB2.out hz2 hb3)
  have hz3 := HB3.out.size
  clear hb3
  go_wp2_with fail
  refine (HA.out _).mono ?_
  rintro e w5 ⟨rfl, hb5⟩
  go_wp2
  go_ret
  exact ⟨rfl, below_step HB3.out hz3 hb5⟩
set_option maxHeartbeats 4000000 in
set_option maxRecDepth 100000 in
theorem back_10 (ha : Awake12) (k f t i : Int) (b s o : ByteArray) (c : Int) (k' f' t' i' : Int) (b' : ByteArray) (_c' : Int)
    (hE : EncTo k f t i b o c) (hc : c ≠ 0) (hD' : DecTo s k' f' t' i' b' 0) (hE' : EncTo k' f' t' i' b' s 0) (w : World) (hs : s.size ≤ 10000) :
    Calls Try.prog 9 #[.agg #[.int .i64 k, .int .i64 f, .int .i64 t, .int .i64 i, .string b], .string s] w fun e w' => e = .returned (.bool true) ∧ Below w.heap.size w w' := by
  have hn1 : (c == 0) = false := by simp [hc]
  have hn2 : (c != 0) = true := by simp [hc]
  have HA := hide ha
  have HE := hide hE
  have HD' := hide hD'
  have HE' := hide hE'
  clear ha hE hD' hE' hc
  go_enter Try.func9, Try.ntmps9
  go_wp2_with fail
  refine (HE.out _).mono ?_
  rintro e w1 ⟨rfl, hb1⟩
  have HB2 := hide (below_step (Below.refl _ _) (Nat.le_refl _) hb1)
  have hz2 := HB2.out.size
  clear hb1
  go_wp2_with fail
  refine (HD'.out _).mono ?_
  rintro e w3 ⟨rfl, hb3⟩
  have HB3 := hide (below_on HB2.out hz2 hb3)
  have hz3 := HB3.out.size
  clear hb3
  go_wp2_with fail
  refine (HE'.out _).mono ?_
  rintro e w4 ⟨rfl, hb4⟩
  have HB4 := hide (below_step HB3.out hz3 hb4)
  have hz4 := HB4.out.size
  clear hb4
  go_wp2_with fail
  refine (HA.out _).mono ?_
  rintro e w5 ⟨rfl, hb5⟩
  go_wp2
  go_ret
  exact ⟨rfl, below_on HB4.out hz4 hb5⟩
set_option maxHeartbeats 4000000 in
set_option maxRecDepth 100000 in
theorem back_11 (ha : Awake12) (k f t i : Int) (b s o : ByteArray) (c : Int) (k' f' t' i' : Int) (b' : ByteArray) (c' : Int)
    (hE : EncTo k f t i b o c) (hc : c ≠ 0) (hD' : DecTo s k' f' t' i' b' c') (hc' : c' ≠ 0) (w : World) (hs : s.size ≤ 10000) :
    Calls Try.prog 9 #[.agg #[.int .i64 k, .int .i64 f, .int .i64 t, .int .i64 i, .string b], .string s] w fun e w' => e = .returned (.bool true) ∧ Below w.heap.size w w' := by
  have hn1 : (c == 0) = false := by simp [hc]
  have hn2 : (c != 0) = true := by simp [hc]
  have hn3 : (c' == 0) = false := by simp [hc']
  have hn4 : (c' != 0) = true := by simp [hc']
  have HA := hide ha
  have HE := hide hE
  have HD' := hide hD'
  clear ha hE hD' hc hc'
  go_enter Try.func9, Try.ntmps9
  go_wp2_with fail
  refine (HE.out _).mono ?_
  rintro e w1 ⟨rfl, hb1⟩
  have HB2 := hide (below_step (Below.refl _ _) (Nat.le_refl _) hb1)
  have hz2 := HB2.out.size
  clear hb1
  go_wp2_with fail
  refine (HD'.out _).mono ?_
  rintro e w3 ⟨rfl, hb3⟩
  have HB3 := hide (below_on HB2.out hz2 hb3)
  have hz3 := HB3.out.size
  clear hb3
  go_wp2_with fail
  refine (HA.out _).mono ?_
  rintro e w5 ⟨rfl, hb5⟩
  go_wp2
  go_ret
  exact ⟨rfl, below_step HB3.out hz3 hb5⟩
set_option maxHeartbeats 4000000 in
set_option maxRecDepth 100000 in
theorem back_far (ha : Awake12) (k f t i : Int) (b s : ByteArray) (w : World) (hs : 10000 < s.size) :
    Calls Try.prog 9 #[.agg #[.int .i64 k, .int .i64 f, .int .i64 t, .int .i64 i, .string b], .string s] w fun e w' => e = .returned (.bool true) ∧ Below w.heap.size w w' := by
  have HA := hide ha
  clear ha
  go_enter Try.func9, Try.ntmps9
  go_wp2_with fail
  refine (HA.out _).mono ?_
  rintro e w5 ⟨rfl, hb5⟩
  go_wp2
  go_ret
  exact ⟨rfl, below_step (Below.refl _ _) (Nat.le_refl _) hb5⟩
end Go.Proofs.Ytljmaicobafgkaa
end
section
/- Layer 12: FramesBack, as its row asks for it. -/
namespace Go.Proofs.Ytljmaicobafgkaa
open Go.RowKit

theorem chk_zero {k f t i : Int} {n : Nat} (h : chk k f t i n = 0) : msgOk k f t i ∧ n ≤ 4096 := by
  unfold chk at h
  by_cases h1 : msgOk k f t i
  · rw [if_pos h1] at h
    by_cases h2 : 4096 < n
    · rw [if_pos h2] at h
      omega
    · exact ⟨h1, by omega⟩
  · rw [if_neg h1] at h
    omega
/-- What Encode gives: a string that is read as the message, or an error. -/
theorem enc_cases (k f t i : Int) (b : ByteArray) (hb : b.size ≤ 9223372036854775807) :
    (∃ l : List UInt8, l.length ≤ 4200 ∧ EncTo k f t i b (sealS ⟨l.toArray⟩) 0 ∧ DecTo (sealS ⟨l.toArray⟩) k f t i b 0) ∨ ∃ c, c ≠ 0 ∧ EncTo k f t i b ⟨#[]⟩ c := by
  by_cases hc : chk k f t i b.size = 0
  · obtain ⟨hm, hn⟩ := chk_zero hc
    have hl := frB_len k f t i b.data.toList ⟨hm.2.2.2.2.2.2.1, by have := hm.2.2.2.2.2.2.2; omega⟩ (by rw [← size_list]; exact hn)
    refine .inl ⟨frB k f t i b.data.toList, hl, fun w => encode_ok k f t i b w hm hn, fun w => ?_⟩
    have hd := dec_enc k f t i b.data.toList hm (by rw [← size_list]; exact hn)
    rw [str_eta] at hd
    refine (decode_any _ w ?_ ?_).mono ?_
    · rw [sealS_size]
      omega
    · rw [sealS_size, str_size]
      omega
    · rintro e w' ⟨rfl, h⟩
      rw [hd]
      exact ⟨rfl, h⟩
  · exact .inr ⟨_, hc, fun w => encode_bad k f t i b w hb hc⟩
/-- What Decode gives: a message that is written as the string, or an error. -/
theorem dec_cases (s : ByteArray) (hs : s.size ≤ 10000) :
    ∃ k f t i b c, DecTo s k f t i b c ∧ (c ≠ 0 ∨ c = 0 ∧ EncTo k f t i b s 0) := by
  rcases Nat.lt_or_ge s.size 4 with h4 | h4
  · exact ⟨0, 0, 0, 0, ⟨#[]⟩, 2, fun w => decode_short s w h4, .inl (by decide)⟩
  · have hd : ∀ w : World, Calls Try.prog 49 #[.string s] w fun e w' => e = .returned (decV s.data.toList) ∧ Below w.heap.size w w' := fun w => decode_any s w h4 (by omega)
    rcases ho : openL s.data.toList with _ | t
    · refine ⟨0, 0, 0, 0, ⟨#[]⟩, 4, fun w => ?_, .inl (by decide)⟩
      have hv : decV s.data.toList = .tuple #[.agg #[.int .i64 0, .int .i64 0, .int .i64 0, .int .i64 0, .string ⟨#[]⟩], .int .i64 4] := by unfold decV; rw [ho]; rfl
      rw [← hv]
      exact hd w
    · have hv : decV s.data.toList = decR t := by unfold decV; rw [ho]
      by_cases hk : dOk t
      · refine ⟨dK t, dF t, dT t, dI t, ⟨(dB t).toArray⟩, 0, fun w => ?_, .inr ⟨rfl, fun w => ?_⟩⟩
        · have := hd w
          rw [hv, decR_ok hk] at this
          exact this
        · obtain ⟨he, hm, hb⟩ := enc_dec t hk
          have h1 := encode_ok (dK t) (dF t) (dT t) (dI t) ⟨(dB t).toArray⟩ w hm hb
          have h2 : sealS ⟨(frB (dK t) (dF t) (dT t) (dI t) (dB t)).toArray⟩ = s := by
            rw [he, ← str_eta (sealS _), sealS_list, str_list, ← openL_inv ho, str_eta]
          rw [show (⟨(dB t).toArray⟩ : ByteArray).data.toList = dB t from rfl, h2] at h1
          exact h1
      · refine ⟨0, 0, 0, 0, ⟨#[]⟩, 3, fun w => ?_, .inl (by decide)⟩
        have := hd w
        rw [hv, decR_no hk] at this
        exact this
theorem walk_framesBack (k f t i : Int) (b s : ByteArray) (w : World) (_hk : (Lit.int .i64 k).wf = true) (_hf : (Lit.int .i64 f).wf = true) (_ht : (Lit.int .i64 t).wf = true) (_hi : (Lit.int .i64 i).wf = true) (hb : b.size ≤ maxLen) (_hs : s.size ≤ 140737488351232) :
    Calls Try.prog 9 #[.agg #[.int .i64 k, .int .i64 f, .int .i64 t, .int .i64 i, .string b], .string s] w fun e w' => e = .returned (.bool true) ∧ Below w.heap.size w w' := by
  rcases Nat.lt_or_ge 10000 s.size with h | h
  · exact back_far awake12 k f t i b s w h
  · obtain ⟨k', f', t', i', b', c', hD', h'⟩ := dec_cases s h
    rcases enc_cases k f t i b hb with ⟨l, _, hE, hD⟩ | ⟨c, hc, hE⟩
    · rcases h' with hc' | ⟨rfl, hE'⟩
      · exact back_01 awake12 k f t i b s _ 0 k' f' t' i' b' c' hE hD hD' hc' w h
      · exact back_00 awake12 k f t i b s _ 0 k' f' t' i' b' 0 hE hD hD' hE' w h
    · rcases h' with hc' | ⟨rfl, hE'⟩
      · exact back_11 awake12 k f t i b s _ c k' f' t' i' b' c' hE hc hD' hc' w h
      · exact back_10 awake12 k f t i b s _ c k' f' t' i' b' 0 hE hc hD' hE' w h
end Go.Proofs.Ytljmaicobafgkaa
end
section
/- Layer 12: a byte of a message turned (FramesByte). -/
namespace Go.Proofs.Ytljmaicobafgkaa
open Go.RowKit

theorem buf_step {B m : Nat} {w w1 w2 : World} {o : ByteArray} {u : Value} (h1 : Below B w w1) (hB : B ≤ w1.heap.size)
    (h2 : Below ((Lib.bytesWorld w1 5 o).setCell ⟨w1.heap.size, m, none⟩ u).heap.size ((Lib.bytesWorld w1 5 o).setCell ⟨w1.heap.size, m, none⟩ u) w2) : Below B w w2 := by
  have hs := ((Below.refl (Lib.bytesWorld w1 5 o).heap.size (Lib.bytesWorld w1 5 o)).size)
  have h3 : B ≤ ((Lib.bytesWorld w1 5 o).setCell ⟨w1.heap.size, m, none⟩ u).heap.size := by
    have := ((Below.refl 0 (Lib.bytesWorld w1 5 o)).setCell (p := ⟨w1.heap.size, m, none⟩) (Nat.zero_le _) u).size
    rw [Lib.bytesWorld_size] at this
    omega
  exact ((h1.trans (buf_below w1 o hB)).setCell (p := ⟨w1.heap.size, m, none⟩) hB u).trans (h2.mono h3)
set_option maxHeartbeats 4000000 in
set_option maxRecDepth 100000 in
theorem byte_err (ha : Awake12) (k f t i : Int) (b : ByteArray) (c : Int) (hE : EncTo k f t i b ⟨#[]⟩ c) (hc : c ≠ 0) (n y : Int) (w : World) :
    Calls Try.prog 10 #[.agg #[.int .i64 k, .int .i64 f, .int .i64 t, .int .i64 i, .string b], .int .i64 n, .int .u8 y] w fun e w' => e = .returned (.bool true) ∧ Below w.heap.size w w' := by
  have hn1 : (c == 0) = false := by simp [hc]
  have hn2 : (c != 0) = true := by simp [hc]
  have HA := hide ha
  have HE := hide hE
  clear ha hE hc
  go_enter Try.func10, Try.ntmps10
  go_wp2_with fail
  refine (HE.out _).mono ?_
  rintro e w1 ⟨rfl, hb1⟩
  have HB1 := hide (below_step (Below.refl _ _) (Nat.le_refl _) hb1)
  have hz1 := HB1.out.size
  clear hb1
  go_wp2_with fail
  refine (HA.out _).mono ?_
  rintro e w5 ⟨rfl, hb5⟩
  go_wp2
  go_ret
  exact ⟨rfl, below_on HB1.out hz1 hb5⟩
set_option maxHeartbeats 4000000 in
set_option maxRecDepth 100000 in
theorem byte_same (ha : Awake12) (k f t i : Int) (b o : ByteArray) (hE : EncTo k f t i b o 0) (he : o.toList.isEmpty = false) (n : Int) (w : World) :
    Calls Try.prog 10 #[.agg #[.int .i64 k, .int .i64 f, .int .i64 t, .int .i64 i, .string b], .int .i64 n, .int .u8 0] w fun e w' => e = .returned (.bool true) ∧ Below w.heap.size w w' := by
  have HA := hide ha
  have HE := hide hE
  clear ha hE
  go_enter Try.func10, Try.ntmps10
  go_wp2_with fail
  refine (HE.out _).mono ?_
  rintro e w1 ⟨rfl, hb1⟩
  have HB1 := hide (below_step (Below.refl _ _) (Nat.le_refl _) hb1)
  have hz1 := HB1.out.size
  clear hb1
  go_wp2_with fail
  refine (HA.out _).mono ?_
  rintro e w5 ⟨rfl, hb5⟩
  go_wp2
  go_ret
  exact ⟨rfl, below_on HB1.out hz1 hb5⟩
set_option maxHeartbeats 4000000 in
set_option maxRecDepth 100000 in
theorem byte_turn (ha : Awake12) (k f t i : Int) (b o : ByteArray) (hE : EncTo k f t i b o 0) (he : o.toList.isEmpty = false) (h63 : o.size ≤ 1073741824) (n y : Int) (hy : y ≠ 0) (m : Nat) (hm : m < o.size)
    (hmod : wrap64 ((IntKind.u64.wrap n).tmod (o.size : Int)) = (m : Int)) (z : UInt8) (hz : bits .xor .u8 ((o.data[m]'hm).toNat : Int) y = (z.toNat : Int)) (hD : DecTo ⟨(o.data.toList.set m z).toArray⟩ 0 0 0 0 ⟨#[]⟩ 4) (w : World) :
    Calls Try.prog 10 #[.agg #[.int .i64 k, .int .i64 f, .int .i64 t, .int .i64 i, .string b], .int .i64 n, .int .u8 y] w fun e w' => e = .returned (.bool true) ∧ Below w.heap.size w w' := by
  have hn3 : (y == 0) = false := by simp [hy]
  have hn4 : (y != 0) = true := by simp [hy]
  have hu : IntKind.u64.wrap (o.size : Int) = (o.size : Int) := by
    show (o.size : Int) % 18446744073709551616 = _
    omega
  have hs0 : o.size ≠ 0 := by omega
  have HA := hide ha
  have HE := hide hE
  have HD := hide hD
  clear ha hE hD
  have hcv := fun W : World => conv_to W o
  have hcl := fun W : World => (buf_new W o).cell (j := m) hm
  have hfz := fun W : World => (buf_new W o).thawed (j := m) hm
  have hbk : ∀ W : World, (convert 77 9 (.slice (some ⟨W.heap.size, 0, none⟩) o.size (grownCap W o.size 0 5))).run Try.prog ((Lib.bytesWorld W 5 o).setCell ⟨W.heap.size, m, none⟩ (.int .u8 (z.toNat : Int))) = .ok (.string ⟨(o.data.toList.set m z).toArray⟩) ((Lib.bytesWorld W 5 o).setCell ⟨W.heap.size, m, none⟩ (.int .u8 (z.toNat : Int))) := fun W => by
    have := ((buf_new W o).set (i := m) z).conv (grownCap W o.size 0 5)
    rw [List.length_set, ← size_list] at this
    exact this
  go_enter Try.func10, Try.ntmps10
  go_wp2_with fail
  refine (HE.out _).mono ?_
  rintro e w1 ⟨rfl, hb1⟩
  have HB1 := hide (below_step (Below.refl _ _) (Nat.le_refl _) hb1)
  have hz1 := HB1.out.size
  clear hb1
  go_wp2_with fail
  refine (HD.out _).mono ?_
  rintro e w2 ⟨rfl, hb2⟩
  have HB2 := hide (buf_step HB1.out hz1 hb2)
  have hz2 := HB2.out.size
  clear hb2
  go_wp2_with fail
  refine (HA.out _).mono ?_
  rintro e w3 ⟨rfl, hb3⟩
  go_wp2
  go_ret
  exact ⟨rfl, below_step HB2.out hz2 hb3⟩
end Go.Proofs.Ytljmaicobafgkaa
end
section
/- Layer 12: FramesByte, as its row asks for it. -/
namespace Go.Proofs.Ytljmaicobafgkaa
open Go.RowKit

theorem wf_i64 {n : Int} (h : (Lit.int .i64 n).wf = true) : -9223372036854775808 ≤ n ∧ n ≤ 9223372036854775807 := by
  simp [Lit.wf, IntKind.min, IntKind.max, IntKind.signed, IntKind.bits] at h
  omega
theorem wf_u8 {n : Int} (h : (Lit.int .u8 n).wf = true) : 0 ≤ n ∧ n ≤ 255 := by
  simp [Lit.wf, IntKind.min, IntKind.max, IntKind.signed, IntKind.bits] at h
  omega
theorem str_some {o : ByteArray} (h : o.size ≠ 0) : o.toList.isEmpty = false := by
  rw [ByteArray.toList_eq]
  rcases e : o.data.toList with _ | ⟨a, l⟩
  · exact absurd (by rw [size_list, e]; rfl) h
  · rfl
theorem wrap64_small {n : Int} (h0 : -9223372036854775808 ≤ n) (h1 : n ≤ 9223372036854775807) : wrap64 n = n := by
  unfold wrap64
  omega
theorem xor_u8 (a b : Nat) (ha : a < 256) (hb : b < 256) : bits .xor .u8 (a : Int) (b : Int) = ((a ^^^ b : Nat) : Int) := by
  show IntKind.u8.wrap ((BitVec.ofInt 8 (a : Int) ^^^ BitVec.ofInt 8 (b : Int)).toNat : Int) = _
  have h : (BitVec.ofInt 8 (a : Int) ^^^ BitVec.ofInt 8 (b : Int)).toNat = a ^^^ b := by
    rw [BitVec.toNat_xor, BitVec.ofInt_natCast, BitVec.toNat_ofNat, BitVec.ofInt_natCast, BitVec.toNat_ofNat, Nat.mod_eq_of_lt (by omega), Nat.mod_eq_of_lt (by omega)]
  have hx : a ^^^ b < 2 ^ 8 := Nat.xor_lt_two_pow (by omega) (by omega)
  rw [h]
  show ((a ^^^ b : Nat) : Int) % 256 = _
  omega
theorem turned_ne (a b : Nat) (hb : b ≠ 0) : a ^^^ b ≠ a := fun h => by
  have h2 := congrArg (a ^^^ ·) h
  simp only [← Nat.xor_assoc, Nat.xor_self, Nat.zero_xor] at h2
  exact hb h2
theorem dec_turned (l : List UInt8) (hl : l.length ≤ 4200) (m : Nat) (hm : m < (sealS ⟨l.toArray⟩).size) (z : UInt8) (hz : (sealS ⟨l.toArray⟩).data.toList[m] ≠ z) :
    DecTo ⟨((sealS ⟨l.toArray⟩).data.toList.set m z).toArray⟩ 0 0 0 0 ⟨#[]⟩ 4 := fun w => by
  have hs : (sealS ⟨l.toArray⟩).size = l.length + 4 := sealS_size ⟨l.toArray⟩
  have e := sealS_list ⟨l.toArray⟩
  have hsz : (⟨((sealS ⟨l.toArray⟩).data.toList.set m z).toArray⟩ : ByteArray).size = (sealS ⟨l.toArray⟩).size := by rw [str_size, List.length_set, ← size_list]
  refine (decode_any _ w ?_ ?_).mono ?_
  · rw [hsz]
    omega
  · rw [hsz]
    omega
  · rintro e' w' ⟨rfl, h⟩
    have ho : openL ((sealS ⟨l.toArray⟩).data.toList.set m z) = none := by
      have hm2 : m < (l ++ le4 (crc l)).length := by
        rw [← str_list l, ← e, ← size_list]
        exact hm
      have := open_turned l m z hm2 (by
        have h2 : (sealS ⟨l.toArray⟩).data.toList[m]'(by rw [← size_list]; exact hm) = (l ++ le4 (crc l))[m] := by
          simp only [e]
        rw [← h2]
        exact hz)
      rw [e]
      exact this
    have hv : decV ((sealS ⟨l.toArray⟩).data.toList.set m z) = .tuple #[.agg #[.int .i64 0, .int .i64 0, .int .i64 0, .int .i64 0, .string ⟨#[]⟩], .int .i64 4] := by unfold decV; rw [ho]; rfl
    rw [str_list, hv]
    exact ⟨rfl, h⟩
theorem walk_framesByte (k f t i : Int) (b : ByteArray) (n y : Int) (w : World) (_hk : (Lit.int .i64 k).wf = true) (_hf : (Lit.int .i64 f).wf = true) (_ht : (Lit.int .i64 t).wf = true) (_hi : (Lit.int .i64 i).wf = true) (hb : b.size ≤ maxLen)
    (_hn : (Lit.int .i64 n).wf = true) (hy : (Lit.int .u8 y).wf = true) :
    Calls Try.prog 10 #[.agg #[.int .i64 k, .int .i64 f, .int .i64 t, .int .i64 i, .string b], .int .i64 n, .int .u8 y] w fun e w' => e = .returned (.bool true) ∧ Below w.heap.size w w' := by
  have hy2 := wf_u8 hy
  rcases enc_cases k f t i b hb with ⟨l, hl, hE, _⟩ | ⟨c, hc, hE⟩
  · have hs : (sealS ⟨l.toArray⟩).size = l.length + 4 := sealS_size ⟨l.toArray⟩
    have he : (sealS ⟨l.toArray⟩).toList.isEmpty = false := str_some (by omega)
    by_cases h0 : y = 0
    · subst h0
      exact byte_same awake12 k f t i b _ hE he n w
    · have hu : IntKind.u64.wrap n = n % 18446744073709551616 := rfl
      have hn0 := Int.emod_nonneg n (b := 18446744073709551616) (by decide)
      have hm0 := Int.emod_nonneg (n % 18446744073709551616) (b := ((sealS ⟨l.toArray⟩).size : Int)) (by omega)
      have hm1 := Int.emod_lt_of_pos (n % 18446744073709551616) (b := ((sealS ⟨l.toArray⟩).size : Int)) (by omega)
      obtain ⟨m, hm⟩ : ∃ m : Nat, n % 18446744073709551616 % ((sealS ⟨l.toArray⟩).size : Int) = (m : Int) := ⟨_, (Int.toNat_of_nonneg hm0).symm⟩
      have hlt : m < (sealS ⟨l.toArray⟩).size := by omega
      have hmod : wrap64 ((IntKind.u64.wrap n).tmod ((sealS ⟨l.toArray⟩).size : Int)) = (m : Int) := by
        rw [hu, Int.tmod_eq_emod_of_nonneg hn0, hm]
        exact wrap64_small (by omega) (by omega)
      obtain ⟨y', rfl⟩ : ∃ y' : Nat, y = (y' : Int) := ⟨_, (Int.toNat_of_nonneg hy2.1).symm⟩
      obtain ⟨a, ha⟩ : ∃ a, a = (sealS ⟨l.toArray⟩).data[m]'hlt := ⟨_, rfl⟩
      have ha8 := a.toNat_lt
      have hx : a.toNat ^^^ y' < 2 ^ 8 := Nat.xor_lt_two_pow (by omega) (by omega)
      have hz : bits .xor .u8 (((sealS ⟨l.toArray⟩).data[m]'hlt).toNat : Int) (y' : Int) = ((UInt8.ofNat (a.toNat ^^^ y')).toNat : Int) := by
        rw [← ha, xor_u8 _ _ (by omega) (by omega), UInt8.toNat_ofNat', Nat.mod_eq_of_lt hx]
      have hne : (sealS ⟨l.toArray⟩).data.toList[m]'(by rw [← size_list]; exact hlt) ≠ UInt8.ofNat (a.toNat ^^^ y') := by
        rw [Array.getElem_toList, ← ha]
        intro h
        have h2 := congrArg UInt8.toNat h
        rw [UInt8.toNat_ofNat', Nat.mod_eq_of_lt hx] at h2
        exact turned_ne a.toNat y' (by omega) h2.symm
      exact byte_turn awake12 k f t i b _ hE he (by omega) n y' h0 m hlt hmod _ hz (dec_turned l hl m hlt _ hne) w
  · exact byte_err awake12 k f t i b c hE hc n y w
end Go.Proofs.Ytljmaicobafgkaa
end
