/- A join of 6 texts of this claim: Reader, Sums, Seal, Frames, FramesIO, FrEnc. Conditions: none of their own. -/
import Derived.Test.YtljmaicobafgkaaN0
import Derived.Lib.IndexBytes
import Derived.Deep.RegionWith
section
/- The walks of codec.Reader. -/
namespace Go.Proofs.Ytljmaicobafgkaa
open Go.RowKit

/-- Block g is a Reader: what is left, or none: it has failed. -/
def rdrCells : Option (List UInt8) → Array Value
  | some l => #[.string ⟨l.toArray⟩, .bool false]
  | none => #[.string ⟨#[]⟩, .bool true]
def Rdr (w : World) (g : Nat) (σ : Option (List UInt8)) : Prop := w.heap[g]? = some (.cells (rdrCells σ) 248 (0, 0))
theorem Rdr.lt {w : World} {g : Nat} {σ : Option (List UInt8)} (h : Rdr w g σ) : g < w.heap.size := obj_lt h
theorem Rdr.fr {F : Nat → Prop} {w w' : World} {g : Nat} {σ : Option (List UInt8)} (h : Rdr w g σ) (hf : Fr F w w') (hg : ¬ F g) : Rdr w' g σ := hf.obj h hg
theorem Rdr.below {w w' : World} {g : Nat} {σ : Option (List UInt8)} (h : Rdr w g σ) (hb : Below w.heap.size w w') : Rdr w' g σ := obj_below h hb

theorem newReader_any (s : ByteArray) (w : World) :
    Calls Try.prog 111 #[.string s] w fun e w' => e = .returned (.pointer (some ⟨w.heap.size, 0, none⟩)) ∧ Rdr w' w.heap.size (some s.data.toList) ∧ Below w.heap.size w w' := by
  go_enter Try.func111, Try.ntmps111
  go_wp2
  go_ret
  exact ⟨rfl, obj_new w _, (Below.refl _ _).alloc (Nat.le_refl _) _⟩

theorem two_set (w : World) (g : Nat) (a b c d : Value) (h : w.heap[g]? = some (.cells #[a, b] 248 (0, 0))) : ((w.setCell ⟨g, 0, none⟩ c).setCell ⟨g, 1, none⟩ d).heap[g]? = some (.cells #[c, d] 248 (0, 0)) := by
  have h1 := obj_set h 0 c
  have h2 := obj_set (w := w.setCell ⟨g, 0, none⟩ c) h1 1 d
  simpa using h2

theorem fail_any (g : Nat) (σ : Option (List UInt8)) (w : World) (h : Rdr w g σ) :
    Calls Try.prog 165 #[.pointer (some ⟨g, 0, none⟩)] w fun e w' => e = .returned (.tuple #[]) ∧ Rdr w' g none ∧ Fr (· = g) w w' := by
  obtain ⟨a, b, hab⟩ : ∃ a b, rdrCells σ = #[a, b] := by cases σ <;> exact ⟨_, _, rfl⟩
  unfold Rdr at h
  rw [hab] at h
  have c0 := obj_cell h 0
  have c1 := obj_cell h 1
  have f0 := obj_frozen h 0
  have f1 := obj_frozen h 1
  simp only [List.getElem?_toArray, List.getElem?_cons_zero, List.getElem?_cons_succ] at c0 c1
  have HB := hide h
  clear h hab
  go_enter Try.func165, Try.ntmps165
  go_wp2
  go_end0
  exact ⟨rfl, two_set w g _ _ _ _ HB.out, ((Fr.refl (· = g) w).setCell (p := ⟨g, 0, none⟩) (fun _ => rfl) _).setCell (p := ⟨g, 1, none⟩) (fun _ => rfl) _⟩

theorem ext_take (l : List UInt8) (n : Nat) : (⟨l.toArray⟩ : ByteArray).extract 0 n = ⟨(l.take n).toArray⟩ := by
  rw [← str_eta (ByteArray.extract _ _ _), Lib.extract_data]
  simp
theorem ext_drop (l : List UInt8) (n : Nat) : (⟨l.toArray⟩ : ByteArray).extract n l.length = ⟨(l.drop n).toArray⟩ := by
  rw [← str_eta (ByteArray.extract _ _ _), Lib.extract_data]
  show (⟨((l.drop n).take (l.length - n)).toArray⟩ : ByteArray) = _
  rw [List.take_of_length_le (by simp)]
theorem take_ok (g : Nat) (l : List UInt8) (n : Nat) (w : World) (h : Rdr w g (some l)) (hn : n ≤ l.length) (_hl : l.length ≤ 4611686018427387904) :
    Calls Try.prog 166 #[.pointer (some ⟨g, 0, none⟩), .int .i64 n] w fun e w' => e = .returned (.tuple #[.string ⟨(l.take n).toArray⟩, .bool true]) ∧ Rdr w' g (some (l.drop n)) ∧ Fr (· = g) w w' := by
  have c0 := obj_cell h 0
  have c1 := obj_cell h 1
  have f0 := obj_frozen h 0
  simp only [rdrCells, List.getElem?_toArray, List.getElem?_cons_zero, List.getElem?_cons_succ] at c0 c1
  have HB := hide h
  have hz : (⟨l.toArray⟩ : ByteArray).size = l.length := rfl
  have hx := ext_take l n
  have hy := ext_drop l n
  clear h
  go_enter Try.func166, Try.ntmps166
  go_wp2
  go_ret2
  exact ⟨rfl, by have := obj_set HB.out 0 (.string ⟨(l.drop n).toArray⟩); simpa [rdrCells, Rdr] using this, (Fr.refl (· = g) w).setCell (p := ⟨g, 0, none⟩) (fun _ => rfl) _⟩
theorem take_bad (g : Nat) (σ : Option (List UInt8)) (n : Int) (w : World) (h : Rdr w g σ) (hn : ∀ l, σ = some l → n < 0 ∨ (l.length : Int) < n) :
    Calls Try.prog 166 #[.pointer (some ⟨g, 0, none⟩), .int .i64 n] w fun e w' => e = .returned (.tuple #[.string ⟨#[]⟩, .bool false]) ∧ Rdr w' g none ∧ Fr (· = g) w w' := by
  have c0 := obj_cell h 0
  have c1 := obj_cell h 1
  have HB := hide h
  clear h
  rcases σ with _ | l
  · clear hn
    simp only [rdrCells, List.getElem?_toArray, List.getElem?_cons_zero, List.getElem?_cons_succ] at c0 c1
    go_enter Try.func166, Try.ntmps166
    go_wp2_with (go_at_call 165; refine (fail_any _ _ _ HB.out).mono ?_; rintro e w' ⟨rfl, hr, hf⟩)
    go_ret2
    exact ⟨rfl, hr, hf⟩
  · simp only [rdrCells, List.getElem?_toArray, List.getElem?_cons_zero, List.getElem?_cons_succ] at c0 c1
    have hz : (⟨l.toArray⟩ : ByteArray).size = l.length := rfl
    rcases hn l rfl with hn | hn
    · go_enter Try.func166, Try.ntmps166
      go_wp2_with (go_at_call 165; refine (fail_any _ _ _ HB.out).mono ?_; rintro e w' ⟨rfl, hr, hf⟩)
      go_ret2
      exact ⟨rfl, hr, hf⟩
    · have hn0 : ¬ n < 0 := by omega
      go_enter Try.func166, Try.ntmps166
      go_wp2_with (go_at_call 165; refine (fail_any _ _ _ HB.out).mono ?_; rintro e w' ⟨rfl, hr, hf⟩)
      go_ret2
      exact ⟨rfl, hr, hf⟩

/-! What the readers tell. -/
def unz (u : Int) : Int := if u % 2 = 0 then u / 2 else -(u / 2) - 1
def rInt (σ : Option (List UInt8)) : Int × Option (List UInt8) :=
  match σ with
  | none => (0, none)
  | some l => match grpR l 0 0 with
    | none => (0, none)
    | some (u, n) => (unz u, some (l.drop n))
def rByte (σ : Option (List UInt8)) : Int × Option (List UInt8) :=
  match σ with
  | some (b :: r) => ((b.toNat : Int), some r)
  | _ => (0, none)
def rText (σ : Option (List UInt8)) : List UInt8 × Option (List UInt8) :=
  match (rInt σ).2 with
  | none => ([], none)
  | some r => if 0 ≤ (rInt σ).1 ∧ (rInt σ).1 ≤ r.length then (r.take (rInt σ).1.toNat, some (r.drop (rInt σ).1.toNat)) else ([], none)
def rDone (σ : Option (List UInt8)) : Int := if σ = some [] then 0 else 3

theorem and1_u64 (n : Nat) (_hn : n < 18446744073709551616) : bits .and .u64 (n : Int) 1 = ((n % 2 : Nat) : Int) := by
  show IntKind.u64.wrap ((BitVec.ofInt 64 (n : Int) &&& BitVec.ofInt 64 1).toNat : Int) = _
  have h : (BitVec.ofInt 64 (n : Int) &&& BitVec.ofInt 64 1).toNat = n % 2 := by
    rw [BitVec.toNat_and, BitVec.ofInt_natCast, BitVec.toNat_ofNat, show (BitVec.ofInt 64 1).toNat = 1 from by decide, Nat.and_one_is_mod]
    omega
  rw [h]
  show ((n % 2 : Nat) : Int) % 18446744073709551616 = _
  omega
theorem xor0_i64 (a : Nat) (ha : a < 9223372036854775808) : bits .xor .i64 (a : Int) 0 = (a : Int) := by
  show IntKind.i64.wrap ((BitVec.ofInt 64 (a : Int) ^^^ BitVec.ofInt 64 0).toNat : Int) = _
  have h : (BitVec.ofInt 64 (a : Int) ^^^ BitVec.ofInt 64 0).toNat = a := by
    rw [BitVec.toNat_xor, BitVec.ofInt_natCast, BitVec.toNat_ofNat]
    simp
    omega
  rw [h, IntKind.wrap_i64]
  omega
theorem xor1_i64 (a : Nat) (ha : a < 9223372036854775808) : bits .xor .i64 (a : Int) (-1) = -(a : Int) - 1 := by
  show IntKind.i64.wrap ((BitVec.ofInt 64 (a : Int) ^^^ BitVec.ofInt 64 (-1)).toNat : Int) = _
  have h : BitVec.ofInt 64 (a : Int) ^^^ BitVec.ofInt 64 (-1) = ~~~ (BitVec.ofNat 64 a) := by
    rw [BitVec.ofInt_natCast]
    have : BitVec.ofInt 64 (-1) = BitVec.allOnes 64 := by decide
    rw [this, BitVec.xor_allOnes]
  rw [h, BitVec.toNat_not, BitVec.toNat_ofNat, IntKind.wrap_i64]
  omega
theorem unz_bits (u : Int) (h0 : 0 ≤ u) (h1 : u < 18446744073709551616) : bits .xor .i64 (u / 2) (wrap64 (-(wrap64 (bits .and .u64 u 1)))) = unz u := by
  obtain ⟨n, rfl⟩ : ∃ n : Nat, u = n := ⟨u.toNat, by omega⟩
  have hn : n < 18446744073709551616 := by omega
  rw [and1_u64 n hn]
  have hw : wrap64 ((n % 2 : Nat) : Int) = ((n % 2 : Nat) : Int) := by unfold wrap64; omega
  rw [hw]
  unfold unz
  by_cases hp : n % 2 = 0
  · rw [if_pos (by omega), hp, show wrap64 (-((0 : Nat) : Int)) = 0 from by unfold wrap64; omega, show ((n : Int) / 2) = ((n / 2 : Nat) : Int) from by omega, xor0_i64 _ (by omega)]
  · rw [if_neg (by omega), show n % 2 = 1 from by omega, show wrap64 (-((1 : Nat) : Int)) = -1 from by unfold wrap64; omega, show ((n : Int) / 2) = ((n / 2 : Nat) : Int) from by omega, xor1_i64 _ (by omega)]
theorem grpR_bound : ∀ (l : List UInt8) (k : Nat) (u : Int) (v : Int) (n : Nat), grpR l k u = some (v, n) → 0 ≤ v ∧ v < 18446744073709551616 ∧ k < n ∧ n ≤ k + l.length
  | [], _, _, _, _, h => by simp [grpR] at h
  | b :: r, k, u, v, n, h => by
    rw [grpR] at h
    split at h
    · cases h
    · split at h
      · have := grpR_bound r (k + 1) _ v n h
        simp only [List.length_cons]
        omega
      · split at h
        · cases h
        · simp only [Option.some.injEq, Prod.mk.injEq] at h
          obtain ⟨rfl, rfl⟩ := h
          have := bits_u64 .or u (IntKind.u64.wrap (bits .and .u64 (IntKind.u64.wrap (b.toNat : Int)) 127 * 2 ^ (7 * k)))
          exact ⟨this.1, this.2, by omega, by simp only [List.length_cons]; omega⟩

theorem ret_i64 {a b : Int} (h : a = b) : Ending.returned (.int .i64 a) = Ending.returned (.int .i64 b) := by rw [h]
theorem rInt_any (g : Nat) (σ : Option (List UInt8)) (w : World) (h : Rdr w g σ) (hl : ∀ l, σ = some l → l.length ≤ 1073741824) :
    Calls Try.prog 112 #[.pointer (some ⟨g, 0, none⟩)] w fun e w' => e = .returned (.int .i64 (rInt σ).1) ∧ Rdr w' g (rInt σ).2 ∧ Fr (· = g) w w' := by
  rcases σ with _ | l
  · have c0 := obj_cell h 0
    simp only [rdrCells, List.getElem?_toArray, List.getElem?_cons_zero] at c0
    have HB := hide h
    clear h hl
    go_enter Try.func112, Try.ntmps112
    go_wp2_with fail
    refine (groups_any _ _ (by simp [ByteArray.size])).mono ?_
    rintro e w' ⟨rfl, rfl⟩
    rw [show grpV (grpR (⟨#[]⟩ : ByteArray).data.toList 0 0) = .tuple #[.int .u64 0, .int .i64 0] from rfl]
    go_wp2_with fail
    refine (fail_any _ _ _ HB.out).mono ?_
    rintro e w' ⟨rfl, hr, hf⟩
    go_wp2
    go_ret
    exact ⟨rfl, hr, hf⟩
  · have c0 := obj_cell h 0
    simp only [rdrCells, List.getElem?_toArray, List.getElem?_cons_zero] at c0
    have HB := hide h
    have hl' := hl l rfl
    clear h hl
    rcases hg : grpR l 0 0 with _ | ⟨u, n⟩
    · have HG := hide hg
      clear hg
      go_enter Try.func112, Try.ntmps112
      go_wp2_with fail
      refine (groups_any _ _ (by rw [str_size]; omega)).mono ?_
      rintro e w' ⟨rfl, rfl⟩
      rw [show grpV (grpR (⟨l.toArray⟩ : ByteArray).data.toList 0 0) = .tuple #[.int .u64 0, .int .i64 0] from by rw [str_list, HG.out]; rfl]
      go_wp2_with fail
      refine (fail_any _ _ _ HB.out).mono ?_
      rintro e w' ⟨rfl, hr, hf⟩
      go_wp2
      go_ret
      rw [show rInt (some l) = (0, none) from by simp only [rInt, HG.out]]
      exact ⟨rfl, hr, hf⟩
    · obtain ⟨hu0, hu1, hn0, hn1⟩ := grpR_bound l 0 0 u n hg
      have HG := hide hg
      have hne : ((n : Int) == 0) = false := by simp; omega
      clear hg
      go_enter Try.func112, Try.ntmps112
      go_wp2_with fail
      refine (groups_any _ _ (by rw [str_size]; omega)).mono ?_
      rintro e w' ⟨rfl, rfl⟩
      rw [show grpV (grpR (⟨l.toArray⟩ : ByteArray).data.toList 0 0) = .tuple #[.int .u64 u, .int .i64 n] from by rw [str_list, HG.out]; rfl]
      go_wp2_with fail
      refine (take_ok _ _ n _ HB.out (by omega) (by omega)).mono ?_
      rintro e w' ⟨rfl, hr, hf⟩
      go_wp2
      go_ret
      rw [show rInt (some l) = (unz u, some (l.drop n)) from by simp only [rInt, HG.out]]
      exact ⟨ret_i64 (unz_bits u hu0 hu1), hr, hf⟩

theorem rInt_len {σ : Option (List UInt8)} {r : List UInt8} (h : (rInt σ).2 = some r) {N : Nat} (hl : ∀ l, σ = some l → l.length ≤ N) : r.length ≤ N := by
  rcases σ with _ | l
  · simp [rInt] at h
  · have := hl l rfl
    simp only [rInt] at h
    split at h
    · cases h
    · simp only [Option.some.injEq] at h
      rw [← h, List.length_drop]
      omega

theorem rByte_any (g : Nat) (σ : Option (List UInt8)) (w : World) (h : Rdr w g σ) (hl : ∀ l, σ = some l → l.length ≤ 1073741824) :
    Calls Try.prog 133 #[.pointer (some ⟨g, 0, none⟩)] w fun e w' => e = .returned (.int .i64 (rByte σ).1) ∧ Rdr w' g (rByte σ).2 ∧ Fr (· = g) w w' := by
  have bad : ∀ _ : ∀ l, σ = some l → l = [], Calls Try.prog 133 #[.pointer (some ⟨g, 0, none⟩)] w fun e w' => e = .returned (.int .i64 0) ∧ Rdr w' g none ∧ Fr (· = g) w w' := fun hn => by
    have HB := hide h
    have HN := hide hn
    clear h hl hn
    go_enter Try.func133, Try.ntmps133
    go_wp2_with fail
    refine (take_bad g σ 1 _ HB.out (fun l e => .inr (by rw [HN.out l e]; simp))).mono ?_
    rintro e w' ⟨rfl, hr, hf⟩
    go_wp2
    go_ret
    exact ⟨rfl, hr, hf⟩
  rcases σ with _ | l
  · exact bad (fun l e => by cases e)
  · rcases l with _ | ⟨b, r⟩
    · exact bad (fun l e => by cases e; rfl)
    · have HB := hide h
      have hl' := hl _ rfl
      clear h hl bad
      go_enter Try.func133, Try.ntmps133
      go_wp2_with fail
      refine (take_ok g (b :: r) 1 _ HB.out (by simp) (by omega)).mono ?_
      rintro e w' ⟨rfl, hr, hf⟩
      simp only [List.take_succ_cons, List.take_zero, List.drop_succ_cons, List.drop_zero] at hr ⊢
      have hr2 := hide hr
      clear hr
      go_wp2
      go_ret
      exact ⟨ret_i64 (show wrap64 (b.toNat : Int) = (b.toNat : Int) from by have := b.toNat_lt; unfold wrap64; omega), hr2.out, hf⟩

theorem rText_any (g : Nat) (σ : Option (List UInt8)) (w : World) (h : Rdr w g σ) (hl : ∀ l, σ = some l → l.length ≤ 1073741824) :
    Calls Try.prog 169 #[.pointer (some ⟨g, 0, none⟩)] w fun e w' => e = .returned (.string ⟨(rText σ).1.toArray⟩) ∧ Rdr w' g (rText σ).2 ∧ Fr (· = g) w w' := by
  have HB := hide h
  have HL := hide hl
  clear h hl
  go_enter Try.func169, Try.ntmps169
  go_wp2_with fail
  refine (rInt_any g σ _ HB.out HL.out).mono ?_
  rintro e w1 ⟨rfl, hr1, hf1⟩
  have HR1 := hide hr1
  have HF1 := hide hf1
  clear hr1 hf1
  by_cases hok : ∃ r, (rInt σ).2 = some r ∧ 0 ≤ (rInt σ).1 ∧ (rInt σ).1 ≤ (r.length : Int)
  · obtain ⟨r, h2, h0, h1⟩ := hok
    have hrl : r.length ≤ 1073741824 := rInt_len h2 HL.out
    obtain ⟨n, hn⟩ : ∃ n : Nat, (rInt σ).1 = n := ⟨(rInt σ).1.toNat, by omega⟩
    have ht : rText σ = (r.take n, some (r.drop n)) := by
      unfold rText
      rw [h2]
      simp only [hn]
      rw [if_pos (by omega)]
      rfl
    have hr := HR1.out
    rw [h2] at hr
    have HR := hide hr
    have HT := hide ht
    rw [hn]
    rw [hn] at h1
    clear h2 hr ht hn h0
    go_wp2_with fail
    refine (take_ok g r n _ HR.out (by omega) (by omega)).mono ?_
    rintro e w' ⟨rfl, hr, hf⟩
    go_wp2
    go_ret
    rw [HT.out]
    exact ⟨rfl, hr, HF1.out.trans hf (fun _ _ h => h)⟩
  · have ht : rText σ = ([], none) := by
      unfold rText
      split
      · rfl
      · rename_i r h2
        rw [if_neg (fun hh => hok ⟨r, h2, hh.1, hh.2⟩)]
    have HT := hide ht
    have HK := hide hok
    clear ht hok
    go_wp2_with fail
    refine (take_bad g (rInt σ).2 _ _ HR1.out (fun r e => ?_)).mono ?_
    · rcases Int.lt_or_le (rInt σ).1 0 with h | h
      · exact .inl h
      · exact .inr (Int.not_le.1 (fun h' => HK.out ⟨r, e, h, h'⟩))
    · rintro e w' ⟨rfl, hr, hf⟩
      go_wp2
      go_ret
      rw [HT.out]
      exact ⟨rfl, hr, HF1.out.trans hf (fun _ _ h => h)⟩

theorem rDone_any (g : Nat) (σ : Option (List UInt8)) (w : World) (h : Rdr w g σ) :
    Calls Try.prog 113 #[.pointer (some ⟨g, 0, none⟩)] w fun e w' => e = .returned (.int .i64 (rDone σ)) ∧ Below w.heap.size w w' := by
  have c0 := obj_cell h 0
  have c1 := obj_cell h 1
  clear h
  rcases σ with _ | l
  · simp only [rdrCells, List.getElem?_toArray, List.getElem?_cons_zero, List.getElem?_cons_succ] at c0 c1
    go_enter Try.func113, Try.ntmps113
    go_wp2
    go_ret
    exact ⟨rfl, Below.refl _ _⟩
  · simp only [rdrCells, List.getElem?_toArray, List.getElem?_cons_zero, List.getElem?_cons_succ] at c0 c1
    rcases l with _ | ⟨b, r⟩
    · go_enter Try.func113, Try.ntmps113
      go_wp2
      go_ret
      exact ⟨rfl, Below.refl _ _⟩
    · go_enter Try.func113, Try.ntmps113
      go_wp2
      go_ret
      refine ⟨?_, Below.refl _ _⟩
      simp [rDone]
end Go.Proofs.Ytljmaicobafgkaa
end
section
/- The sum of 32 bits: the walks of sums.eight, More, Sum, Seal, Open. -/
namespace Go.Proofs.Ytljmaicobafgkaa
open Go.RowKit

/-- One bit's step. -/
def bitStep (c : Int) : Int := bits .xor .u32 (c / 2) (bits .and .u32 3988292384 (-(bits .and .u32 c 1) % 4294967296))
def bitSteps : Nat → Int → Int
  | 0, c => c
  | k + 1, c => bitSteps k (bitStep c)

theorem bits_u32 (op : BinOp) (a b : Int) : 0 ≤ bits op .u32 a b ∧ bits op .u32 a b < 4294967296 := by
  have h : ∀ x : Int, 0 ≤ IntKind.u32.wrap x ∧ IntKind.u32.wrap x < 4294967296 := fun x => by
    simp only [IntKind.wrap]
    exact ⟨Int.emod_nonneg _ (by decide), Int.emod_lt_of_pos _ (by decide)⟩
  unfold bits
  split <;> exact h _

theorem bitSteps_range : ∀ (k : Nat) (c : Int), 0 ≤ c → c < 4294967296 → 0 ≤ bitSteps k c ∧ bitSteps k c < 4294967296
  | 0, _, h0, h1 => ⟨h0, h1⟩
  | k + 1, _, _, _ => bitSteps_range k _ (bits_u32 _ _ _).1 (bits_u32 _ _ _).2

def EightJ (c : Int) (w : World) (a' : Act) (w' : World) : Prop :=
  w = w' ∧ ∃ (m : Nat) (q d : Int) (u4 u5 u6 u7 u8 u9 u10 u11 u12 u13 u14 : Value), a' = { tmps := #[.int .u32 d, undef, .int .u32 0, .int .i64 q, u4, u5, u6, u7, u8, u9, u10, u11, u12, u13, u14, undef], defers := [] } ∧ q = m ∧ bitSteps m d = bitSteps 8 c ∧ 1 ≤ m ∧ m ≤ 8 ∧ 0 ≤ d ∧ d < 4294967296

set_option maxRecDepth 1000000 in
theorem eight_any (c : Int) (w : World) (_h0 : 0 ≤ c) (_h1 : c < 4294967296) :
    Calls Try.prog 189 #[.int .u32 c] w fun e w' => e = .returned (.int .u32 (bitSteps 8 c)) ∧ w = w' := by
  go_enter Try.func189, Try.ntmps189
  go_wp2
  refine wp_scope_jumps 0 (EightJ c w) (fun a' _ => (intOf (a'.tmps.getD 3 undef)).toNat) rfl ?_ ?_
  · go_wp2
    go_step3
    go_wp2
    go_step3
    exact ⟨rfl, rfl, 7, _, _, _, _, _, _, _, _, _, _, _, _, _, rfl, rfl, rfl, by omega, by omega, (bits_u32 _ _ _).1, (bits_u32 _ _ _).2⟩
  · rintro a' w' ⟨rfl, m, q, d, u4, u5, u6, u7, u8, u9, u10, u11, u12, u13, u14, rfl, hq, hs, hm1, hm8, hd0, hd1⟩
    subst hq
    go_wp2
    · have hlt : (1 : Int) < m := by assumption
      go_step3
      obtain ⟨j, rfl⟩ : ∃ j, m = j + 1 := ⟨m - 1, by omega⟩
      exact ⟨rfl, ⟨rfl, j, _, _, _, _, _, _, _, _, _, _, _, _, _, rfl, by omega, hs, by omega, by omega, (bits_u32 _ _ _).1, (bits_u32 _ _ _).2⟩, by simp [intOf]⟩
    · have hle : (m : Int) ≤ 1 := by assumption
      obtain rfl : m = 1 := by omega
      simp only [Exit.jump]
      go_ret
      exact ⟨by rw [← hs]; rfl, rfl⟩

/-- The sum of bytes, from a state on. -/
def sumOn (c : Int) (l : List UInt8) : Int := l.foldl (fun c b => bitSteps 8 (bits .xor .u32 c ((b.toNat : Int) % 4294967296))) c
theorem sumOn_range (c : Int) (l : List UInt8) (h0 : 0 ≤ c) (h1 : c < 4294967296) : 0 ≤ sumOn c l ∧ sumOn c l < 4294967296 := by
  induction l generalizing c with
  | nil => exact ⟨h0, h1⟩
  | cons b l ih =>
    have h := bitSteps_range 8 (bits .xor .u32 c ((b.toNat : Int) % 4294967296)) (bits_u32 _ _ _).1 (bits_u32 _ _ _).2
    exact ih _ h.1 h.2
theorem sumOn_snoc (c : Int) (l : List UInt8) (b : UInt8) : sumOn c (l ++ [b]) = bitSteps 8 (bits .xor .u32 (sumOn c l) ((b.toNat : Int) % 4294967296)) := by simp [sumOn]
theorem take_snoc_bytes (s : ByteArray) (k : Nat) (h : k < s.size) : s.data.toList.take (k + 1) = s.data.toList.take k ++ [s[k]] := by
  rw [List.take_succ_eq_append_getElem (by simpa using h)]
  rfl

def sumInit : Int := bits .xor .u32 IntKind.u32.max 0
def crc (l : List UInt8) : Int := bits .xor .u32 IntKind.u32.max (sumOn sumInit l)
theorem crc_range (l : List UInt8) : 0 ≤ crc l ∧ crc l < 4294967296 := bits_u32 _ _ _

theorem more_any (s : ByteArray) (w : World) (_hs : s.size ≤ 9223372036854775807) :
    Calls Try.prog 184 #[.int .u32 0, .string s] w fun e w' => e = .returned (.int .u32 (crc s.data.toList)) ∧ w = w' := by
  go_enter Try.func184, Try.ntmps184
  go_wp2
  go_loop [5, 6, 11] (fun c _ i => ∃ (k : Nat) (d : Int), k ≤ s.size ∧ i = .int .i64 k ∧ c = .int .u32 d ∧ Hid (d = sumOn sumInit (s.data.toList.take k)) ∧ 0 ≤ d ∧ d < 4294967296) (fun _ _ i => s.size - (intOf i).toNat)
  case atStart => exact ⟨0, _, by omega, rfl, rfl, rfl, (bits_u32 _ _ _).1, (bits_u32 _ _ _).2⟩
  case round =>
    obtain ⟨k, d, hk, rfl, rfl, hd, hd0, hd1⟩ := hrel
    by_cases hlt : k < s.size
    · have hn := bitSteps_range 8 (bits .xor .u32 d ((s[k].toNat : Int) % 4294967296)) (bits_u32 _ _ _).1 (bits_u32 _ _ _).2
      have hx : Hid (bitSteps 8 (bits .xor .u32 d ((s[k].toNat : Int) % 4294967296)) = sumOn sumInit (s.data.toList.take (k + 1))) := by
        rw [take_snoc_bytes s k hlt, sumOn_snoc, ← hd.out]
        exact rfl
      go_wp2_with fail
      refine (eight_any _ _ (bits_u32 _ _ _).1 (bits_u32 _ _ _).2).mono ?_
      rintro e w' ⟨rfl, rfl⟩
      go_wp2
      go_round
      case rel => exact ⟨k + 1, _, by omega, by go_num, rfl, hx, hn.1, hn.2⟩
      case measure => simp [intOf]; omega
    · go_wp2
      go_ret
      have e : s.data.toList.take k = s.data.toList := List.take_of_length_le (by simp; omega)
      have hd' := hd.out
      rw [e] at hd'
      exact ⟨by rw [hd']; rfl, rfl⟩

theorem sum_any (s : ByteArray) (w : World) (hs : s.size ≤ 9223372036854775807) :
    Calls Try.prog 171 #[.string s] w fun e w' => e = .returned (.int .u32 (crc s.data.toList)) ∧ w = w' := by
  go_enter Try.func171, Try.ntmps171
  go_wp2_with (go_at_call 184; refine (more_any _ _ hs).mono ?_; rintro e w' ⟨rfl, rfl⟩)
  go_ret
  exact ⟨rfl, rfl⟩
end Go.Proofs.Ytljmaicobafgkaa
end
section
/- The walks of sums.Seal and Open. -/
namespace Go.Proofs.Ytljmaicobafgkaa
open Go.RowKit

def sealS (s : ByteArray) : ByteArray := s ++ ⟨(le4 (crc s.data.toList)).toArray⟩
theorem seal_any (s : ByteArray) (w : World) (hs : s.size ≤ 4611686018427387904) :
    Calls Try.prog 117 #[.string s] w fun e w' => e = .returned (.string (sealS s)) ∧ Below w.heap.size w w' := by
  have hsz : s.size + (⟨(le4 (crc s.data.toList)).toArray⟩ : ByteArray).size ≤ 9223372036854775807 := by rw [str_size]; show s.size + 4 ≤ _; omega
  go_enter Try.func117, Try.ntmps117
  go_wp2_with (first | (go_at_call 171; refine (sum_any _ _ (by omega)).mono ?_; rintro e w' ⟨rfl, rfl⟩) | (go_at_call 170; refine (four_any _ _ (crc_range _).1 (crc_range _).2).mono ?_; rintro e w' ⟨rfl, hb⟩))
  go_ret
  exact ⟨rfl, hb⟩

theorem open_short (s : ByteArray) (w : World) (hs : s.size < 4) :
    Calls Try.prog 120 #[.string s] w fun e w' => e = .returned (.tuple #[.string ⟨#[]⟩, .int .i64 2]) ∧ Below w.heap.size w w' := by
  have h : (s.size : Int) - 4 < 0 := by omega
  go_enter Try.func120, Try.ntmps120
  go_wp2
  go_ret2
  exact ⟨rfl, Below.refl _ _⟩
/-- What a text with a right sum holds. -/
def openL (l : List UInt8) : Option (List UInt8) :=
  if le4 (crc (l.take (l.length - 4))) = l.drop (l.length - 4) then some (l.take (l.length - 4)) else none
def openV (l : List UInt8) : Value :=
  match openL l with
  | some t => .tuple #[.string ⟨t.toArray⟩, .int .i64 0]
  | none => .tuple #[.string ⟨#[]⟩, .int .i64 4]
theorem openV_yes {l : List UInt8} {n : Nat} (hn : l.length = n + 4) (h : le4 (crc (l.take n)) = l.drop n) : openV l = .tuple #[.string ⟨(l.take n).toArray⟩, .int .i64 0] := by
  have e : l.length - 4 = n := by omega
  simp [openV, openL, e, h]
theorem openV_no {l : List UInt8} {n : Nat} (hn : l.length = n + 4) (h : ¬ le4 (crc (l.take n)) = l.drop n) : openV l = .tuple #[.string ⟨#[]⟩, .int .i64 4] := by
  have e : l.length - 4 = n := by omega
  simp [openV, openL, e, h]
theorem extract_str (s : ByteArray) (a b : Nat) : s.extract a b = ⟨((s.data.toList.drop a).take (b - a)).toArray⟩ := by
  rw [← str_eta (s.extract a b), Lib.extract_data]
theorem open_long (s : ByteArray) (w : World) (hs0 : 4 ≤ s.size) (hs2 : s.size ≤ 9223372036854775807) :
    Calls Try.prog 120 #[.string s] w fun e w' => e = .returned (openV s.data.toList) ∧ Below w.heap.size w w' := by
  obtain ⟨n, hs⟩ : ∃ n, s.size = n + 4 := ⟨s.size - 4, by omega⟩
  have h : (s.size : Int) - 4 = (n : Int) := by omega
  have h1 : (n : Int) ≤ s.size := by omega
  have h2 : n ≤ s.size := by omega
  have h3 : ((n : Int) < 0) = False := by simp
  have HS := hide hs
  clear hs
  have hx : (s.extract n s.size).toList = s.data.toList.drop n := by rw [Lib.toList_data, Lib.extract_to_end]
  have hy : s.extract 0 n = ⟨(s.data.toList.take n).toArray⟩ := by rw [extract_str]; simp
  have hz : (⟨(s.data.toList.take n).toArray⟩ : ByteArray).size ≤ 9223372036854775807 := by
    rw [str_size, List.length_take]
    have := size_list s
    omega
  by_cases he : le4 (crc (s.data.toList.take n)) = s.data.toList.drop n
  · have hv := hide (openV_yes (l := s.data.toList) HS.out he)
    have hd : (!le4 (crc (s.data.toList.take n)) == s.data.toList.drop n) = false := by simp [he]
    clear he
    go_enter Try.func120, Try.ntmps120
    go_wp2
    go_region_with (first | (go_at_call 171; refine (sum_any _ _ hz).mono ?_; rintro e w' ⟨rfl, rfl⟩) | (go_at_call 170; refine (four_any _ _ (crc_range _).1 (crc_range _).2).mono ?_; rintro e w' ⟨rfl, hb⟩))
    all_goals
      go_wp2
      go_ret2
      rw [hv.out]
      exact ⟨rfl, undrew hb⟩
  · have hv := hide (openV_no (l := s.data.toList) HS.out he)
    have hd : (!le4 (crc (s.data.toList.take n)) == s.data.toList.drop n) = true := by simp [he]
    clear he
    go_enter Try.func120, Try.ntmps120
    go_wp2
    go_region_with (first | (go_at_call 171; refine (sum_any _ _ hz).mono ?_; rintro e w' ⟨rfl, rfl⟩) | (go_at_call 170; refine (four_any _ _ (crc_range _).1 (crc_range _).2).mono ?_; rintro e w' ⟨rfl, hb⟩))
    all_goals
      go_wp2
      go_ret2
      rw [hv.out]
      exact ⟨rfl, undrew hb⟩
end Go.Proofs.Ytljmaicobafgkaa
end
section
/- The walks of package frames. -/
namespace Go.Proofs.Ytljmaicobafgkaa
open Go.RowKit

def msgV (k f t i : Int) (b : ByteArray) : Value := .agg #[.int .i64 k, .int .i64 f, .int .i64 t, .int .i64 i, .string b]
def msgOk (k f t i : Int) : Prop := 1 ≤ k ∧ k ≤ 99 ∧ 0 ≤ f ∧ f ≤ 63 ∧ 0 ≤ t ∧ t ≤ 63 ∧ 0 ≤ i ∧ i < 2147483648
instance (k f t i : Int) : Decidable (msgOk k f t i) := by unfold msgOk; infer_instance
def chk (k f t i : Int) (n : Nat) : Int := if msgOk k f t i then (if 4096 < n then 2 else 0) else 1

set_option maxRecDepth 100000 in
theorem check_any (k f t i : Int) (b : ByteArray) (w : World) (hb : b.size ≤ 9223372036854775807) :
    Calls Try.prog 46 #[.agg #[.int .i64 k, .int .i64 f, .int .i64 t, .int .i64 i, .string b]] w fun e w' => e = .returned (.int .i64 (chk k f t i b.size)) ∧ Below w.heap.size w w' := by
  by_cases h0 : k < 1
  · have hv : chk k f t i b.size = 1 := if_neg (by unfold msgOk; omega)
    rw [hv]
    clear hv
    go_enter Try.func46, Try.ntmps46
    go_wp2
    go_ret
    exact ⟨rfl, (Below.refl _ _).alloc (Nat.le_refl _) _⟩
  by_cases h1 : 99 < k
  · have hv : chk k f t i b.size = 1 := if_neg (by unfold msgOk; omega)
    rw [hv]
    clear hv
    go_enter Try.func46, Try.ntmps46
    go_wp2
    go_ret
    exact ⟨rfl, (Below.refl _ _).alloc (Nat.le_refl _) _⟩
  by_cases h2 : f < 0
  · have hv : chk k f t i b.size = 1 := if_neg (by unfold msgOk; omega)
    rw [hv]
    clear hv
    go_enter Try.func46, Try.ntmps46
    go_wp2
    go_ret
    exact ⟨rfl, (Below.refl _ _).alloc (Nat.le_refl _) _⟩
  by_cases h3 : 63 < f
  · have hv : chk k f t i b.size = 1 := if_neg (by unfold msgOk; omega)
    rw [hv]
    clear hv
    go_enter Try.func46, Try.ntmps46
    go_wp2
    go_ret
    exact ⟨rfl, (Below.refl _ _).alloc (Nat.le_refl _) _⟩
  by_cases h4 : t < 0
  · have hv : chk k f t i b.size = 1 := if_neg (by unfold msgOk; omega)
    rw [hv]
    clear hv
    go_enter Try.func46, Try.ntmps46
    go_wp2
    go_ret
    exact ⟨rfl, (Below.refl _ _).alloc (Nat.le_refl _) _⟩
  by_cases h5 : 63 < t
  · have hv : chk k f t i b.size = 1 := if_neg (by unfold msgOk; omega)
    rw [hv]
    clear hv
    go_enter Try.func46, Try.ntmps46
    go_wp2
    go_ret
    exact ⟨rfl, (Below.refl _ _).alloc (Nat.le_refl _) _⟩
  by_cases h6 : i < 0
  · have hv : chk k f t i b.size = 1 := if_neg (by unfold msgOk; omega)
    rw [hv]
    clear hv
    go_enter Try.func46, Try.ntmps46
    go_wp2
    go_ret
    exact ⟨rfl, (Below.refl _ _).alloc (Nat.le_refl _) _⟩
  by_cases h7 : 2147483648 ≤ i
  · have hv : chk k f t i b.size = 1 := if_neg (by unfold msgOk; omega)
    rw [hv]
    clear hv
    go_enter Try.func46, Try.ntmps46
    go_wp2
    go_ret
    exact ⟨rfl, (Below.refl _ _).alloc (Nat.le_refl _) _⟩
  by_cases h8 : 4096 < b.size
  · have hv : chk k f t i b.size = 2 := by unfold chk; rw [if_pos (by unfold msgOk; omega), if_pos h8]
    rw [hv]
    clear hv
    go_enter Try.func46, Try.ntmps46
    go_wp2
    go_ret
    exact ⟨rfl, (Below.refl _ _).alloc (Nat.le_refl _) _⟩
  · have hv : chk k f t i b.size = 0 := by unfold chk; rw [if_pos (by unfold msgOk; omega), if_neg h8]
    rw [hv]
    clear hv
    go_enter Try.func46, Try.ntmps46
    go_wp2
    go_ret
    exact ⟨rfl, (Below.refl _ _).alloc (Nat.le_refl _) _⟩

def fInt (at_ : Addr) (a b : FuncId) (wv rv : Value) : Value := .iface 255 (.agg #[.pointer (some at_), .func (.func a) #[wv] #[], .func (.func b) #[rv] #[]])
def fStr (at_ : Addr) (a b : FuncId) (wv rv : Value) : Value := .iface 259 (.agg #[.pointer (some at_), .func (.func a) #[wv] #[], .func (.func b) #[rv] #[]])
set_option maxRecDepth 100000 in
theorem parts_any (g : Nat) (wv rv : Value) (w : World) :
    Calls Try.prog 116 #[.pointer (some ⟨g, 0, none⟩), wv, rv] w fun e w' => ∃ q, e = .returned (.slice (some ⟨q, 0, none⟩) 5 5) ∧ q = w.heap.size ∧
      w'.heap[q]? = some (.cells #[fInt ⟨g, 0, none⟩ 129 133 wv rv, fInt ⟨g, 1, none⟩ 129 133 wv rv, fInt ⟨g, 2, none⟩ 129 133 wv rv, fInt ⟨g, 3, none⟩ 108 112 wv rv, fStr ⟨g, 4, none⟩ 168 169 wv rv] 192 (0, 0)) ∧ Below w.heap.size w w' := by
  go_enter Try.func116, Try.ntmps116
  go_wp2
  refine wp_stl 45 (by kernel_rfl) (by kernel_rfl) ?_
  simp only [List.take_succ_cons, List.take_zero, List.drop_succ_cons, List.drop_zero]
  repeat still_step
  refine wpStill_nil ?_
  go_wp2
  go_ret
  exact ⟨_, rfl, rfl, obj_new _ _, ((Below.refl w.heap.size w).alloc (Nat.le_refl _) _).drew⟩
end Go.Proofs.Ytljmaicobafgkaa
end
section
/- The walks of the fields' write and take. -/
namespace Go.Proofs.Ytljmaicobafgkaa
open Go.RowKit

theorem Wr.drew {w : World} {g : Nat} {most e : Int} {l : List UInt8} (h : Wr w g most l e) : Wr w.drew g most l e := h.below ((Below.refl _ _).drew)
theorem Rdr.drew {w : World} {g : Nat} {σ : Option (List UInt8)} (h : Rdr w g σ) : Rdr w.drew g σ := h
set_option maxRecDepth 100000 in
theorem writeByte_any (g wg j : Nat) (rf : Value) (most : Int) (l : List UInt8) (n : Int) (w : World) (hW : Wr w wg most l 0) (hl : l.length ≤ 1048576) (hc : w.cell? ⟨g, j, none⟩ = some (.int .i64 n)) (h0 : 0 ≤ n) (h1 : n ≤ 255) (hfit : (l.length : Int) + 1 ≤ most) :
    Calls Try.prog 238 #[.agg #[.pointer (some ⟨g, j, none⟩), .func (.func 129) #[.pointer (some ⟨wg, 0, none⟩)] #[], rf]] w fun e w' => e = .returned (.tuple #[]) ∧ Wr w' wg most (l ++ [ub n]) 0 ∧ Fr (· = wg) w w' := by
  have hc2 : (w.alloc (.cells #[.pointer (some ⟨g, j, none⟩), .func (.func 129) #[.pointer (some ⟨wg, 0, none⟩)] #[], rf] 255)).cell? ⟨g, j, none⟩ = some (.int .i64 n) :=
    (World.cell?_alloc_lt w _ _ (World.block_lt_of_cell? w _ hc)).trans hc
  have HW := hide (hW.below ((Below.refl _ _).alloc (Nat.le_refl _) (.cells #[.pointer (some ⟨g, j, none⟩), .func (.func 129) #[.pointer (some ⟨wg, 0, none⟩)] #[], rf] 255))).drew
  clear hW
  go_enter Try.func238, Try.ntmps238
  go_wp2
  refine wp_stl 6 (by kernel_rfl) (by kernel_rfl) ?_
  simp only [List.take_succ_cons, List.take_zero, List.drop_succ_cons, List.drop_zero]
  repeat still_step
  refine wpStill_nil ?_
  go_wp2_with fail
  refine (wByte_fits wg most l n _ HW.out hl h0 h1 hfit).mono ?_
  rintro e w' ⟨rfl, hw, hf⟩
  go_wp2
  go_end0
  exact ⟨rfl, hw, ((Fr.refl _ _).alloc _).drew.trans hf (fun _ _ h => h)⟩
set_option maxRecDepth 100000 in
theorem writeInt_any (g wg j : Nat) (rf : Value) (most : Int) (l : List UInt8) (n : Int) (w : World) (hW : Wr w wg most l 0) (hl : l.length ≤ 1048576) (hc : w.cell? ⟨g, j, none⟩ = some (.int .i64 n)) (h0 : -9223372036854775808 ≤ n) (h1 : n ≤ 9223372036854775807) (hfit : (l.length : Int) + 10 ≤ most) :
    Calls Try.prog 238 #[.agg #[.pointer (some ⟨g, j, none⟩), .func (.func 108) #[.pointer (some ⟨wg, 0, none⟩)] #[], rf]] w fun e w' => e = .returned (.tuple #[]) ∧ Wr w' wg most (l ++ num n) 0 ∧ Fr (· = wg) w w' := by
  have hc2 : (w.alloc (.cells #[.pointer (some ⟨g, j, none⟩), .func (.func 108) #[.pointer (some ⟨wg, 0, none⟩)] #[], rf] 255)).cell? ⟨g, j, none⟩ = some (.int .i64 n) :=
    (World.cell?_alloc_lt w _ _ (World.block_lt_of_cell? w _ hc)).trans hc
  have HW := hide (hW.below ((Below.refl _ _).alloc (Nat.le_refl _) (.cells #[.pointer (some ⟨g, j, none⟩), .func (.func 108) #[.pointer (some ⟨wg, 0, none⟩)] #[], rf] 255))).drew
  clear hW
  go_enter Try.func238, Try.ntmps238
  go_wp2
  refine wp_stl 6 (by kernel_rfl) (by kernel_rfl) ?_
  simp only [List.take_succ_cons, List.take_zero, List.drop_succ_cons, List.drop_zero]
  repeat still_step
  refine wpStill_nil ?_
  go_wp2_with fail
  refine (wInt_fits wg most l n _ HW.out hl h0 h1 hfit).mono ?_
  rintro e w' ⟨rfl, hw, hf⟩
  go_wp2
  go_end0
  exact ⟨rfl, hw, ((Fr.refl _ _).alloc _).drew.trans hf (fun _ _ h => h)⟩
set_option maxRecDepth 100000 in
theorem writeText_any (g wg j : Nat) (rf : Value) (most : Int) (l : List UInt8) (s : ByteArray) (w : World) (hW : Wr w wg most l 0) (hl : l.length ≤ 1048576) (hc : w.cell? ⟨g, j, none⟩ = some (.string s)) (hs : s.size ≤ 1048576) (hfit : (l.length : Int) + s.size + 10 ≤ most) :
    Calls Try.prog 240 #[.agg #[.pointer (some ⟨g, j, none⟩), .func (.func 168) #[.pointer (some ⟨wg, 0, none⟩)] #[], rf]] w fun e w' => e = .returned (.tuple #[]) ∧ Wr w' wg most (l ++ textB s.data.toList) 0 ∧ Fr (· = wg) w w' := by
  have hc2 : (w.alloc (.cells #[.pointer (some ⟨g, j, none⟩), .func (.func 168) #[.pointer (some ⟨wg, 0, none⟩)] #[], rf] 259)).cell? ⟨g, j, none⟩ = some (.string s) :=
    (World.cell?_alloc_lt w _ _ (World.block_lt_of_cell? w _ hc)).trans hc
  have HW := hide (hW.below ((Below.refl _ _).alloc (Nat.le_refl _) (.cells #[.pointer (some ⟨g, j, none⟩), .func (.func 168) #[.pointer (some ⟨wg, 0, none⟩)] #[], rf] 259))).drew
  clear hW
  go_enter Try.func240, Try.ntmps240
  go_wp2
  refine wp_stl 6 (by kernel_rfl) (by kernel_rfl) ?_
  simp only [List.take_succ_cons, List.take_zero, List.drop_succ_cons, List.drop_zero]
  repeat still_step
  refine wpStill_nil ?_
  go_wp2_with fail
  refine (wText_fits wg most l s _ HW.out hl hs hfit).mono ?_
  rintro e w' ⟨rfl, hw, hf⟩
  go_wp2
  go_end0
  exact ⟨rfl, hw, ((Fr.refl _ _).alloc _).drew.trans hf (fun _ _ h => h)⟩
set_option maxRecDepth 100000 in
theorem takeByte_any (g rg j : Nat) (lf : Value) (σ : Option (List UInt8)) (cs : Array Value) (hj : j < cs.size) (w : World) (h : Rdr w rg σ) (hl : ∀ l, σ = some l → l.length ≤ 1073741824) (hb : w.heap[g]? = some (.cells cs 63 (0, 0))) :
    Calls Try.prog 237 #[.agg #[.pointer (some ⟨g, j, none⟩), lf, .func (.func 133) #[.pointer (some ⟨rg, 0, none⟩)] #[]]] w fun e w' => e = .returned (.tuple #[]) ∧ Rdr w' rg (rByte σ).2 ∧ w'.heap[g]? = some (.cells (cs.setIfInBounds j (.int .i64 (rByte σ).1)) 63 (0, 0)) ∧ Fr (fun k => k = rg ∨ k = g) w w' := by
  have hne : g ≠ rg := obj_ne hb h (by decide)
  have HBX := hide (obj_new w (.cells #[.pointer (some ⟨g, j, none⟩), lf, .func (.func 133) #[.pointer (some ⟨rg, 0, none⟩)] #[]] 255))
  have HW := hide (h.below ((Below.refl _ _).alloc (Nat.le_refl _) (.cells #[.pointer (some ⟨g, j, none⟩), lf, .func (.func 133) #[.pointer (some ⟨rg, 0, none⟩)] #[]] 255))).drew
  have HB := hide (obj_alloc hb (.cells #[.pointer (some ⟨g, j, none⟩), lf, .func (.func 133) #[.pointer (some ⟨rg, 0, none⟩)] #[]] 255))
  have HL := hide hl
  have hrg := h.lt
  have hgl := obj_lt hb
  clear h hb hl
  go_enter Try.func237, Try.ntmps237
  go_wp2
  go_region_with ((go_at_call 133; refine (rByte_any rg σ _ HW.out HL.out).mono ?_; rintro e w' ⟨rfl, hr, hf⟩; have hbx := hf.obj (k := w.heap.size) HBX.out (by omega); have hb1 := hf.obj (k := g) HB.out hne; have d0 := obj_cell hbx 0; have d1 := obj_cell hb1 j; have d2 := obj_frozen hb1 j; simp only [List.getElem?_toArray, List.getElem?_cons_zero] at d0; rw [Array.getElem?_eq_getElem hj] at d1; replace hr := hide hr; replace hf := hide hf; replace hbx := hide hbx; replace hb1 := hide hb1))
  all_goals
    go_wp2
    go_end0
    exact ⟨rfl, obj_far hr.out (Ne.symm hne) _, obj_set hb1.out j _,
      (((((Fr.refl (fun k => k = rg ∨ k = g) w).alloc _).drew).trans hf.out (fun _ _ h => .inl h)).setCell (p := ⟨g, j, none⟩) (fun _ => .inr rfl) _)⟩
set_option maxRecDepth 100000 in
theorem takeInt_any (g rg j : Nat) (lf : Value) (σ : Option (List UInt8)) (cs : Array Value) (hj : j < cs.size) (w : World) (h : Rdr w rg σ) (hl : ∀ l, σ = some l → l.length ≤ 1073741824) (hb : w.heap[g]? = some (.cells cs 63 (0, 0))) :
    Calls Try.prog 237 #[.agg #[.pointer (some ⟨g, j, none⟩), lf, .func (.func 112) #[.pointer (some ⟨rg, 0, none⟩)] #[]]] w fun e w' => e = .returned (.tuple #[]) ∧ Rdr w' rg (rInt σ).2 ∧ w'.heap[g]? = some (.cells (cs.setIfInBounds j (.int .i64 (rInt σ).1)) 63 (0, 0)) ∧ Fr (fun k => k = rg ∨ k = g) w w' := by
  have hne : g ≠ rg := obj_ne hb h (by decide)
  have HBX := hide (obj_new w (.cells #[.pointer (some ⟨g, j, none⟩), lf, .func (.func 112) #[.pointer (some ⟨rg, 0, none⟩)] #[]] 255))
  have HW := hide (h.below ((Below.refl _ _).alloc (Nat.le_refl _) (.cells #[.pointer (some ⟨g, j, none⟩), lf, .func (.func 112) #[.pointer (some ⟨rg, 0, none⟩)] #[]] 255))).drew
  have HB := hide (obj_alloc hb (.cells #[.pointer (some ⟨g, j, none⟩), lf, .func (.func 112) #[.pointer (some ⟨rg, 0, none⟩)] #[]] 255))
  have HL := hide hl
  have hrg := h.lt
  have hgl := obj_lt hb
  clear h hb hl
  go_enter Try.func237, Try.ntmps237
  go_wp2
  go_region_with ((go_at_call 112; refine (rInt_any rg σ _ HW.out HL.out).mono ?_; rintro e w' ⟨rfl, hr, hf⟩; have hbx := hf.obj (k := w.heap.size) HBX.out (by omega); have hb1 := hf.obj (k := g) HB.out hne; have d0 := obj_cell hbx 0; have d1 := obj_cell hb1 j; have d2 := obj_frozen hb1 j; simp only [List.getElem?_toArray, List.getElem?_cons_zero] at d0; rw [Array.getElem?_eq_getElem hj] at d1; replace hr := hide hr; replace hf := hide hf; replace hbx := hide hbx; replace hb1 := hide hb1))
  all_goals
    go_wp2
    go_end0
    exact ⟨rfl, obj_far hr.out (Ne.symm hne) _, obj_set hb1.out j _,
      (((((Fr.refl (fun k => k = rg ∨ k = g) w).alloc _).drew).trans hf.out (fun _ _ h => .inl h)).setCell (p := ⟨g, j, none⟩) (fun _ => .inr rfl) _)⟩
set_option maxRecDepth 100000 in
theorem takeText_any (g rg j : Nat) (lf : Value) (σ : Option (List UInt8)) (cs : Array Value) (hj : j < cs.size) (w : World) (h : Rdr w rg σ) (hl : ∀ l, σ = some l → l.length ≤ 1073741824) (hb : w.heap[g]? = some (.cells cs 63 (0, 0))) :
    Calls Try.prog 239 #[.agg #[.pointer (some ⟨g, j, none⟩), lf, .func (.func 169) #[.pointer (some ⟨rg, 0, none⟩)] #[]]] w fun e w' => e = .returned (.tuple #[]) ∧ Rdr w' rg (rText σ).2 ∧ w'.heap[g]? = some (.cells (cs.setIfInBounds j (.string ⟨(rText σ).1.toArray⟩)) 63 (0, 0)) ∧ Fr (fun k => k = rg ∨ k = g) w w' := by
  have hne : g ≠ rg := obj_ne hb h (by decide)
  have HBX := hide (obj_new w (.cells #[.pointer (some ⟨g, j, none⟩), lf, .func (.func 169) #[.pointer (some ⟨rg, 0, none⟩)] #[]] 259))
  have HW := hide (h.below ((Below.refl _ _).alloc (Nat.le_refl _) (.cells #[.pointer (some ⟨g, j, none⟩), lf, .func (.func 169) #[.pointer (some ⟨rg, 0, none⟩)] #[]] 259))).drew
  have HB := hide (obj_alloc hb (.cells #[.pointer (some ⟨g, j, none⟩), lf, .func (.func 169) #[.pointer (some ⟨rg, 0, none⟩)] #[]] 259))
  have HL := hide hl
  have hrg := h.lt
  have hgl := obj_lt hb
  clear h hb hl
  go_enter Try.func239, Try.ntmps239
  go_wp2
  go_region_with ((go_at_call 169; refine (rText_any rg σ _ HW.out HL.out).mono ?_; rintro e w' ⟨rfl, hr, hf⟩; have hbx := hf.obj (k := w.heap.size) HBX.out (by omega); have hb1 := hf.obj (k := g) HB.out hne; have d0 := obj_cell hbx 0; have d1 := obj_cell hb1 j; have d2 := obj_frozen hb1 j; simp only [List.getElem?_toArray, List.getElem?_cons_zero] at d0; rw [Array.getElem?_eq_getElem hj] at d1; replace hr := hide hr; replace hf := hide hf; replace hbx := hide hbx; replace hb1 := hide hb1))
  all_goals
    go_wp2
    go_end0
    exact ⟨rfl, obj_far hr.out (Ne.symm hne) _, obj_set hb1.out j _,
      (((((Fr.refl (fun k => k = rg ∨ k = g) w).alloc _).drew).trans hf.out (fun _ _ h => .inl h)).setCell (p := ⟨g, j, none⟩) (fun _ => .inr rfl) _)⟩
end Go.Proofs.Ytljmaicobafgkaa
end
section
/- The walk of frames.Encode. -/
namespace Go.Proofs.Ytljmaicobafgkaa
open Go.RowKit

/-- The fields' bytes, the first k of them. -/
def frPre (kd fr tt id : Int) (b : List UInt8) : Nat → List UInt8
  | 0 => []
  | 1 => [ub kd]
  | 2 => [ub kd] ++ [ub fr]
  | 3 => [ub kd] ++ [ub fr] ++ [ub tt]
  | 4 => [ub kd] ++ [ub fr] ++ [ub tt] ++ num id
  | _ => [ub kd] ++ [ub fr] ++ [ub tt] ++ num id ++ textB b
def frB (kd fr tt id : Int) (b : List UInt8) : List UInt8 := frPre kd fr tt id b 5

def EncS (w0 : World) (mg wg pg : Nat) (kd fr tt id : Int) (b : ByteArray) (rfv : Value) (w : World) (i : Value) : Prop :=
  ∃ k : Nat, i = .int .i64 k ∧ k ≤ 5 ∧ Wr w wg 65536 (frPre kd fr tt id b.data.toList k) 0 ∧
    w.heap[mg]? = some (.cells #[.int .i64 kd, .int .i64 fr, .int .i64 tt, .int .i64 id, .string b] 63 (0, 0)) ∧
    w.heap[pg]? = some (.cells #[fInt ⟨mg, 0, none⟩ 129 133 (.pointer (some ⟨wg, 0, none⟩)) rfv, fInt ⟨mg, 1, none⟩ 129 133 (.pointer (some ⟨wg, 0, none⟩)) rfv, fInt ⟨mg, 2, none⟩ 129 133 (.pointer (some ⟨wg, 0, none⟩)) rfv, fInt ⟨mg, 3, none⟩ 108 112 (.pointer (some ⟨wg, 0, none⟩)) rfv, fStr ⟨mg, 4, none⟩ 168 169 (.pointer (some ⟨wg, 0, none⟩)) rfv] 192 (0, 0)) ∧
    Below w0.heap.size w0 w ∧ w0.heap.size ≤ wg
theorem mw255 (x : Array Value) (w : World) : (method 421 255 (.agg x) "hurdle/frames.write").run Try.prog w = .ok (238, .agg x) w := by kernel_rfl
theorem mw259 (x : Array Value) (w : World) : (method 421 259 (.agg x) "hurdle/frames.write").run Try.prog w = .ok (240, .agg x) w := by kernel_rfl
theorem Wr.ne {w : World} {g k : Nat} {most e : Int} {l : List UInt8} {cs : Array Value} {t : TypeId} {f : Nat × Nat} (h : Wr w g most l e) (h' : w.heap[k]? = some (.cells cs t f)) (ht : t ≠ 243) : k ≠ g := by
  obtain ⟨A, c, hb, _⟩ := h
  exact obj_ne h' hb ht
theorem num_ten (n : Int) (h : 0 ≤ n ∧ n < 9223372036854775807) : (num n).length ≤ 10 := numN_ten _ (zz_lt n (by omega) (by omega))
theorem encS_next {w0 w w' : World} {mg wg pg : Nat} {kd fr tt id : Int} {b : ByteArray} {rfv : Value} (k : Nat) (hk : k < 5)
    (hM : w.heap[mg]? = some (.cells #[.int .i64 kd, .int .i64 fr, .int .i64 tt, .int .i64 id, .string b] 63 (0, 0)))
    (hP : w.heap[pg]? = some (.cells #[fInt ⟨mg, 0, none⟩ 129 133 (.pointer (some ⟨wg, 0, none⟩)) rfv, fInt ⟨mg, 1, none⟩ 129 133 (.pointer (some ⟨wg, 0, none⟩)) rfv, fInt ⟨mg, 2, none⟩ 129 133 (.pointer (some ⟨wg, 0, none⟩)) rfv, fInt ⟨mg, 3, none⟩ 108 112 (.pointer (some ⟨wg, 0, none⟩)) rfv, fStr ⟨mg, 4, none⟩ 168 169 (.pointer (some ⟨wg, 0, none⟩)) rfv] 192 (0, 0)))
    (hB : Below w0.heap.size w0 w) (hg : w0.heap.size ≤ wg) {l : List UInt8} (hW : Wr w wg 65536 l 0) (hf : Fr (· = wg) w w')
    (hW' : Wr w' wg 65536 (frPre kd fr tt id b.data.toList (k + 1)) 0) : EncS w0 mg wg pg kd fr tt id b rfv w' (.int .i64 ((k + 1 : Nat) : Int)) :=
  ⟨k + 1, rfl, by omega, hW', hf.obj hM (hW.ne hM (by decide)), hf.obj hP (hW.ne hP (by decide)), hB.trans (hf.below _ hB.size (fun i hi e => by omega)), hg⟩
set_option maxRecDepth 100000 in
theorem encode_ok (kd fr tt id : Int) (b : ByteArray) (w : World) (hm : msgOk kd fr tt id) (hb : b.size ≤ 4096) :
    Calls Try.prog 44 #[.agg #[.int .i64 kd, .int .i64 fr, .int .i64 tt, .int .i64 id, .string b]] w fun e w' => e = .returned (.tuple #[.string (sealS ⟨(frB kd fr tt id b.data.toList).toArray⟩), .int .i64 0]) ∧ Below w.heap.size w w' := by
  have hchk : chk kd fr tt id b.size = 0 := by unfold chk; rw [if_pos hm, if_neg (by omega)]
  have HC := hide hchk
  clear hchk
  have HM := hide hm
  clear hm
  have hmg := hide (obj_new w (.cells #[.int .i64 kd, .int .i64 fr, .int .i64 tt, .int .i64 id, .string b] 63))
  go_enter Try.func44, Try.ntmps44
  go_wp2_with fail
  refine (check_any kd fr tt id b _ (by omega)).mono ?_
  rintro e w1 ⟨rfl, hb1⟩
  rw [HC.out]
  have HB1 := hide hb1
  have hmg1 := hide (obj_below hmg.out hb1)
  have hs1 := hb1.size
  simp only [World.size_alloc] at hs1
  clear hb1
  go_wp2_with fail
  refine (newWriter_any 65536 _ (by decide) (by decide)).mono ?_
  rintro e w2 ⟨rfl, hW2, hb2⟩
  have HB2 := hide hb2
  have HW2 := hide hW2
  have hs2 := hb2.size
  clear hb2 hW2
  go_wp2_with fail
  refine (parts_any _ _ _ _).mono ?_
  rintro e w3 ⟨q, rfl, hq, hp3, hb3⟩
  have HB3 := hide hb3
  have HP3 := hide hp3
  clear hb3 hp3
  have HQ := hide hq
  clear hq
  go_wp2_with fail
  have hbelow : Below w.heap.size w w3 := (((Below.refl _ _).alloc (Nat.le_refl _) _).trans (HB1.out.mono (by simp))).trans ((HB2.out.mono (by omega)).trans (HB3.out.mono (by have := HB2.out.size; omega)))
  have hW3 := HW2.out.below HB3.out
  have hmg3 := obj_below (obj_below hmg1.out HB2.out) HB3.out
  obtain ⟨rfv, hrf⟩ : ∃ rfv, rfv = Value.pointer none := ⟨_, rfl⟩
  have hP3 := HP3.out
  rw [← hrf] at hP3
  have hstart : EncS w w.heap.size w1.heap.size q kd fr tt id b rfv w3 (.int .i64 0) := ⟨0, rfl, by omega, hW3, hmg3, hP3, hbelow, by omega⟩
  have HS := hide hstart
  clear hstart hbelow hW3 hmg3 hP3 hrf
  go_loopw [7, 19] (fun _ i wr => EncS w w.heap.size w1.heap.size q kd fr tt id b rfv wr i) (fun _ i _ => 5 - (intOf i).toNat)
  case atStart => exact HS.out
  case round =>
    obtain ⟨k, rfl, hk, hW, hM, hP, hB, hg⟩ := hrel
    have p0 := obj_cell hP 0
    have p1 := obj_cell hP 1
    have p2 := obj_cell hP 2
    have p3 := obj_cell hP 3
    have p4 := obj_cell hP 4
    have m0 := obj_cell hM 0
    have m1 := obj_cell hM 1
    have m2 := obj_cell hM 2
    have m3 := obj_cell hM 3
    have m4 := obj_cell hM 4
    simp only [List.getElem?_toArray, List.getElem?_cons_zero, List.getElem?_cons_succ, fInt, fStr] at p0 p1 p2 p3 p4 m0 m1 m2 m3 m4
    have HWr := hide hW
    have HMr := hide hM
    have HPr := hide hP
    have HBr := hide hB
    clear hW hM hP hB
    have mw255 := mw255
    have mw259 := mw259
    rcases k with _ | _ | _ | _ | _ | k
    · go_wp2_with fail
      refine (writeByte_any w.heap.size w1.heap.size 0 _ 65536 _ kd _ HWr.out (by simp [frPre]) m0 (by have := HM.out; unfold msgOk at this; omega) (by have := HM.out; unfold msgOk at this; omega) (by simp [frPre])).mono ?_
      rintro e w4 ⟨rfl, hw4, hf4⟩
      have hst := encS_next 0 (by omega) HMr.out HPr.out HBr.out hg HWr.out hf4 hw4
      have HST := hide hst
      clear hst hw4 hf4
      go_wp2
      go_roundw
      case rel => exact HST.out
      case measure => simp [intOf]
    · go_wp2_with fail
      refine (writeByte_any w.heap.size w1.heap.size 1 _ 65536 _ fr _ HWr.out (by simp [frPre]) m1 (by have := HM.out; unfold msgOk at this; omega) (by have := HM.out; unfold msgOk at this; omega) (by simp [frPre])).mono ?_
      rintro e w4 ⟨rfl, hw4, hf4⟩
      have hst := encS_next 1 (by omega) HMr.out HPr.out HBr.out hg HWr.out hf4 hw4
      have HST := hide hst
      clear hst hw4 hf4
      go_wp2
      go_roundw
      case rel => exact HST.out
      case measure => simp [intOf]
    · go_wp2_with fail
      refine (writeByte_any w.heap.size w1.heap.size 2 _ 65536 _ tt _ HWr.out (by simp [frPre]) m2 (by have := HM.out; unfold msgOk at this; omega) (by have := HM.out; unfold msgOk at this; omega) (by simp [frPre])).mono ?_
      rintro e w4 ⟨rfl, hw4, hf4⟩
      have hst := encS_next 2 (by omega) HMr.out HPr.out HBr.out hg HWr.out hf4 hw4
      have HST := hide hst
      clear hst hw4 hf4
      go_wp2
      go_roundw
      case rel => exact HST.out
      case measure => simp [intOf]
    · go_wp2_with fail
      refine (writeInt_any w.heap.size w1.heap.size 3 _ 65536 _ id _ HWr.out (by simp [frPre]) m3 (by have := HM.out; unfold msgOk at this; omega) (by have := HM.out; unfold msgOk at this; omega) (by simp [frPre])).mono ?_
      rintro e w4 ⟨rfl, hw4, hf4⟩
      have hst := encS_next 3 (by omega) HMr.out HPr.out HBr.out hg HWr.out hf4 hw4
      have HST := hide hst
      clear hst hw4 hf4
      go_wp2
      go_roundw
      case rel => exact HST.out
      case measure => simp [intOf]
    · go_wp2_with fail
      refine (writeText_any w.heap.size w1.heap.size 4 _ 65536 _ b _ HWr.out (by have := num_ten id (by have := HM.out; unfold msgOk at this; omega); simp [frPre]; omega) m4 (by omega) (by have := num_ten id (by have := HM.out; unfold msgOk at this; omega); simp [frPre]; omega)).mono ?_
      rintro e w4 ⟨rfl, hw4, hf4⟩
      have hst := encS_next 4 (by omega) HMr.out HPr.out HBr.out hg HWr.out hf4 hw4
      have HST := hide hst
      clear hst hw4 hf4
      go_wp2
      go_roundw
      case rel => exact HST.out
      case measure => simp [intOf]
    · obtain rfl : k = 0 := by omega
      go_wp2_with fail
      refine (wDone_ok _ _ _ _ HWr.out).mono ?_
      rintro e w4 ⟨rfl, rfl⟩
      go_wp2_with fail
      refine (seal_any _ _ ?_).mono ?_
      · have := num_ten id (by have := HM.out; unfold msgOk at this; omega)
        have h2 := num_ten (b.size : Int) (by omega)
        have h3 := size_list b
        rw [str_size]
        simp [frPre, textB]
        omega
      · rintro e w5 ⟨rfl, hb5⟩
        go_wp2
        go_ret2
        exact ⟨rfl, HBr.out.trans (hb5.mono HBr.out.size)⟩
theorem encode_bad (kd fr tt id : Int) (b : ByteArray) (w : World) (hb : b.size ≤ 9223372036854775807) (hm : chk kd fr tt id b.size ≠ 0) :
    Calls Try.prog 44 #[.agg #[.int .i64 kd, .int .i64 fr, .int .i64 tt, .int .i64 id, .string b]] w fun e w' => e = .returned (.tuple #[.string ⟨#[]⟩, .int .i64 (chk kd fr tt id b.size)]) ∧ Below w.heap.size w w' := by
  obtain ⟨c, hc⟩ : ∃ c, c = chk kd fr tt id b.size := ⟨_, rfl⟩
  rw [← hc] at hm ⊢
  have HC := hide hc
  have hne : (c == 0) = false := by simp [hm]
  have hne2 : (c != 0) = true := by simp [hm]
  clear hc hm
  go_enter Try.func44, Try.ntmps44
  go_wp2_with fail
  refine (check_any kd fr tt id b _ hb).mono ?_
  rintro e w1 ⟨rfl, hb1⟩
  rw [← HC.out]
  have HB1 := hide hb1
  clear hb1
  go_wp2
  go_ret2
  exact ⟨rfl, ((Below.refl _ _).alloc (Nat.le_refl _) _).trans (HB1.out.mono (by simp))⟩
end Go.Proofs.Ytljmaicobafgkaa
end
