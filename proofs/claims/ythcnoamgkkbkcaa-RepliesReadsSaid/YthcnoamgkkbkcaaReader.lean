/- The walks of codec.Reader. -/
import Derived.Test.YthcnoamgkkbkcaaWriter
import Derived.Test.YthcnoamgkkbkcaaGroups
import Derived.Lib.IndexBytes
namespace Go.Proofs.Ythcnoamgkkbkcaa
open Go.RowKit

/-- Block g is a Reader: what is left, or none: it has failed. -/
def rdrCells : Option (List UInt8) → Array Value
  | some l => #[.string ⟨l.toArray⟩, .bool false]
  | none => #[.string ⟨#[]⟩, .bool true]
def Rdr (w : World) (g : Nat) (σ : Option (List UInt8)) : Prop := w.heap[g]? = some (.cells (rdrCells σ) 175 (0, 0))
theorem Rdr.lt {w : World} {g : Nat} {σ : Option (List UInt8)} (h : Rdr w g σ) : g < w.heap.size := obj_lt h
theorem Rdr.fr {F : Nat → Prop} {w w' : World} {g : Nat} {σ : Option (List UInt8)} (h : Rdr w g σ) (hf : Fr F w w') (hg : ¬ F g) : Rdr w' g σ := hf.obj h hg
theorem Rdr.below {w w' : World} {g : Nat} {σ : Option (List UInt8)} (h : Rdr w g σ) (hb : Below w.heap.size w w') : Rdr w' g σ := obj_below h hb

theorem newReader_any (s : ByteArray) (w : World) :
    Calls Try.prog 68 #[.string s] w fun e w' => e = .returned (.pointer (some ⟨w.heap.size, 0, none⟩)) ∧ Rdr w' w.heap.size (some s.data.toList) ∧ Below w.heap.size w w' := by
  go_enter Try.func68, Try.ntmps68
  go_wp2
  go_ret
  exact ⟨rfl, obj_new w _, (Below.refl _ _).alloc (Nat.le_refl _) _⟩

theorem two_set (w : World) (g : Nat) (a b c d : Value) (h : w.heap[g]? = some (.cells #[a, b] 175 (0, 0))) : ((w.setCell ⟨g, 0, none⟩ c).setCell ⟨g, 1, none⟩ d).heap[g]? = some (.cells #[c, d] 175 (0, 0)) := by
  have h1 := obj_set h 0 c
  have h2 := obj_set (w := w.setCell ⟨g, 0, none⟩ c) h1 1 d
  simpa using h2

theorem fail_any (g : Nat) (σ : Option (List UInt8)) (w : World) (h : Rdr w g σ) :
    Calls Try.prog 95 #[.pointer (some ⟨g, 0, none⟩)] w fun e w' => e = .returned (.tuple #[]) ∧ Rdr w' g none ∧ Fr (· = g) w w' := by
  obtain ⟨a, b, hab⟩ : ∃ a b, rdrCells σ = #[a, b] := by cases σ <;> exact ⟨_, _, rfl⟩
  unfold Rdr at h
  rw [hab] at h
  have c0 := obj_cell h 0
  have c1 := obj_cell h 1
  have f0 := obj_frozen h 0
  have f1 := obj_frozen h 1
  simp only [List.getElem?_toArray, List.getElem?_cons_zero, List.getElem?_cons_succ] at c0 c1
  have HB := hide h
  clear h hab
  go_enter Try.func95, Try.ntmps95
  go_wp2
  go_end0
  exact ⟨rfl, two_set w g _ _ _ _ HB.out, ((Fr.refl (· = g) w).setCell (p := ⟨g, 0, none⟩) (fun _ => rfl) _).setCell (p := ⟨g, 1, none⟩) (fun _ => rfl) _⟩

theorem ext_take (l : List UInt8) (n : Nat) : (⟨l.toArray⟩ : ByteArray).extract 0 n = ⟨(l.take n).toArray⟩ := by
  rw [← str_eta (ByteArray.extract _ _ _), Lib.extract_data]
  simp
theorem ext_drop (l : List UInt8) (n : Nat) : (⟨l.toArray⟩ : ByteArray).extract n l.length = ⟨(l.drop n).toArray⟩ := by
  rw [← str_eta (ByteArray.extract _ _ _), Lib.extract_data]
  show (⟨((l.drop n).take (l.length - n)).toArray⟩ : ByteArray) = _
  rw [List.take_of_length_le (by simp)]
theorem take_ok (g : Nat) (l : List UInt8) (n : Nat) (w : World) (h : Rdr w g (some l)) (hn : n ≤ l.length) (_hl : l.length ≤ 4611686018427387904) :
    Calls Try.prog 93 #[.pointer (some ⟨g, 0, none⟩), .int .i64 n] w fun e w' => e = .returned (.tuple #[.string ⟨(l.take n).toArray⟩, .bool true]) ∧ Rdr w' g (some (l.drop n)) ∧ Fr (· = g) w w' := by
  have c0 := obj_cell h 0
  have c1 := obj_cell h 1
  have f0 := obj_frozen h 0
  simp only [rdrCells, List.getElem?_toArray, List.getElem?_cons_zero, List.getElem?_cons_succ] at c0 c1
  have HB := hide h
  have hz : (⟨l.toArray⟩ : ByteArray).size = l.length := rfl
  have hx := ext_take l n
  have hy := ext_drop l n
  clear h
  go_enter Try.func93, Try.ntmps93
  go_wp2
  go_ret2
  exact ⟨rfl, by have := obj_set HB.out 0 (.string ⟨(l.drop n).toArray⟩); simpa [rdrCells, Rdr] using this, (Fr.refl (· = g) w).setCell (p := ⟨g, 0, none⟩) (fun _ => rfl) _⟩
theorem take_bad (g : Nat) (σ : Option (List UInt8)) (n : Int) (w : World) (h : Rdr w g σ) (hn : ∀ l, σ = some l → n < 0 ∨ (l.length : Int) < n) :
    Calls Try.prog 93 #[.pointer (some ⟨g, 0, none⟩), .int .i64 n] w fun e w' => e = .returned (.tuple #[.string ⟨#[]⟩, .bool false]) ∧ Rdr w' g none ∧ Fr (· = g) w w' := by
  have c0 := obj_cell h 0
  have c1 := obj_cell h 1
  have HB := hide h
  clear h
  rcases σ with _ | l
  · clear hn
    simp only [rdrCells, List.getElem?_toArray, List.getElem?_cons_zero, List.getElem?_cons_succ] at c0 c1
    go_enter Try.func93, Try.ntmps93
    go_wp2_with (go_at_call 95; refine (fail_any _ _ _ HB.out).mono ?_; rintro e w' ⟨rfl, hr, hf⟩)
    go_ret2
    exact ⟨rfl, hr, hf⟩
  · simp only [rdrCells, List.getElem?_toArray, List.getElem?_cons_zero, List.getElem?_cons_succ] at c0 c1
    have hz : (⟨l.toArray⟩ : ByteArray).size = l.length := rfl
    rcases hn l rfl with hn | hn
    · go_enter Try.func93, Try.ntmps93
      go_wp2_with (go_at_call 95; refine (fail_any _ _ _ HB.out).mono ?_; rintro e w' ⟨rfl, hr, hf⟩)
      go_ret2
      exact ⟨rfl, hr, hf⟩
    · have hn0 : ¬ n < 0 := by omega
      go_enter Try.func93, Try.ntmps93
      go_wp2_with (go_at_call 95; refine (fail_any _ _ _ HB.out).mono ?_; rintro e w' ⟨rfl, hr, hf⟩)
      go_ret2
      exact ⟨rfl, hr, hf⟩

/-! What the readers tell. -/
def unz (u : Int) : Int := if u % 2 = 0 then u / 2 else -(u / 2) - 1
def rInt (σ : Option (List UInt8)) : Int × Option (List UInt8) :=
  match σ with
  | none => (0, none)
  | some l => match grpR l 0 0 with
    | none => (0, none)
    | some (u, n) => (unz u, some (l.drop n))
def rByte (σ : Option (List UInt8)) : Int × Option (List UInt8) :=
  match σ with
  | some (b :: r) => ((b.toNat : Int), some r)
  | _ => (0, none)
def rText (σ : Option (List UInt8)) : List UInt8 × Option (List UInt8) :=
  match (rInt σ).2 with
  | none => ([], none)
  | some r => if 0 ≤ (rInt σ).1 ∧ (rInt σ).1 ≤ r.length then (r.take (rInt σ).1.toNat, some (r.drop (rInt σ).1.toNat)) else ([], none)
def rDone (σ : Option (List UInt8)) : Int := if σ = some [] then 0 else 3

theorem and1_u64 (n : Nat) (_hn : n < 18446744073709551616) : bits .and .u64 (n : Int) 1 = ((n % 2 : Nat) : Int) := by
  show IntKind.u64.wrap ((BitVec.ofInt 64 (n : Int) &&& BitVec.ofInt 64 1).toNat : Int) = _
  have h : (BitVec.ofInt 64 (n : Int) &&& BitVec.ofInt 64 1).toNat = n % 2 := by
    rw [BitVec.toNat_and, BitVec.ofInt_natCast, BitVec.toNat_ofNat, show (BitVec.ofInt 64 1).toNat = 1 from by decide, Nat.and_one_is_mod]
    omega
  rw [h]
  show ((n % 2 : Nat) : Int) % 18446744073709551616 = _
  omega
theorem xor0_i64 (a : Nat) (ha : a < 9223372036854775808) : bits .xor .i64 (a : Int) 0 = (a : Int) := by
  show IntKind.i64.wrap ((BitVec.ofInt 64 (a : Int) ^^^ BitVec.ofInt 64 0).toNat : Int) = _
  have h : (BitVec.ofInt 64 (a : Int) ^^^ BitVec.ofInt 64 0).toNat = a := by
    rw [BitVec.toNat_xor, BitVec.ofInt_natCast, BitVec.toNat_ofNat]
    simp
    omega
  rw [h, IntKind.wrap_i64]
  omega
theorem xor1_i64 (a : Nat) (ha : a < 9223372036854775808) : bits .xor .i64 (a : Int) (-1) = -(a : Int) - 1 := by
  show IntKind.i64.wrap ((BitVec.ofInt 64 (a : Int) ^^^ BitVec.ofInt 64 (-1)).toNat : Int) = _
  have h : BitVec.ofInt 64 (a : Int) ^^^ BitVec.ofInt 64 (-1) = ~~~ (BitVec.ofNat 64 a) := by
    rw [BitVec.ofInt_natCast]
    have : BitVec.ofInt 64 (-1) = BitVec.allOnes 64 := by decide
    rw [this, BitVec.xor_allOnes]
  rw [h, BitVec.toNat_not, BitVec.toNat_ofNat, IntKind.wrap_i64]
  omega
theorem unz_bits (u : Int) (h0 : 0 ≤ u) (h1 : u < 18446744073709551616) : bits .xor .i64 (u / 2) (wrap64 (-(wrap64 (bits .and .u64 u 1)))) = unz u := by
  obtain ⟨n, rfl⟩ : ∃ n : Nat, u = n := ⟨u.toNat, by omega⟩
  have hn : n < 18446744073709551616 := by omega
  rw [and1_u64 n hn]
  have hw : wrap64 ((n % 2 : Nat) : Int) = ((n % 2 : Nat) : Int) := by unfold wrap64; omega
  rw [hw]
  unfold unz
  by_cases hp : n % 2 = 0
  · rw [if_pos (by omega), hp, show wrap64 (-((0 : Nat) : Int)) = 0 from by unfold wrap64; omega, show ((n : Int) / 2) = ((n / 2 : Nat) : Int) from by omega, xor0_i64 _ (by omega)]
  · rw [if_neg (by omega), show n % 2 = 1 from by omega, show wrap64 (-((1 : Nat) : Int)) = -1 from by unfold wrap64; omega, show ((n : Int) / 2) = ((n / 2 : Nat) : Int) from by omega, xor1_i64 _ (by omega)]
theorem grpR_bound : ∀ (l : List UInt8) (k : Nat) (u : Int) (v : Int) (n : Nat), grpR l k u = some (v, n) → 0 ≤ v ∧ v < 18446744073709551616 ∧ k < n ∧ n ≤ k + l.length
  | [], _, _, _, _, h => by simp [grpR] at h
  | b :: r, k, u, v, n, h => by
    rw [grpR] at h
    split at h
    · cases h
    · split at h
      · have := grpR_bound r (k + 1) _ v n h
        simp only [List.length_cons]
        omega
      · split at h
        · cases h
        · simp only [Option.some.injEq, Prod.mk.injEq] at h
          obtain ⟨rfl, rfl⟩ := h
          have := bits_u64 .or u (IntKind.u64.wrap (bits .and .u64 (IntKind.u64.wrap (b.toNat : Int)) 127 * 2 ^ (7 * k)))
          exact ⟨this.1, this.2, by omega, by simp only [List.length_cons]; omega⟩

theorem ret_i64 {a b : Int} (h : a = b) : Ending.returned (.int .i64 a) = Ending.returned (.int .i64 b) := by rw [h]
theorem rInt_any (g : Nat) (σ : Option (List UInt8)) (w : World) (h : Rdr w g σ) (hl : ∀ l, σ = some l → l.length ≤ 1073741824) :
    Calls Try.prog 70 #[.pointer (some ⟨g, 0, none⟩)] w fun e w' => e = .returned (.int .i64 (rInt σ).1) ∧ Rdr w' g (rInt σ).2 ∧ Fr (· = g) w w' := by
  rcases σ with _ | l
  · have c0 := obj_cell h 0
    simp only [rdrCells, List.getElem?_toArray, List.getElem?_cons_zero] at c0
    have HB := hide h
    clear h hl
    go_enter Try.func70, Try.ntmps70
    go_wp2_with fail
    refine (groups_any _ _ (by simp [ByteArray.size])).mono ?_
    rintro e w' ⟨rfl, rfl⟩
    rw [show grpV (grpR (⟨#[]⟩ : ByteArray).data.toList 0 0) = .tuple #[.int .u64 0, .int .i64 0] from rfl]
    go_wp2_with fail
    refine (fail_any _ _ _ HB.out).mono ?_
    rintro e w' ⟨rfl, hr, hf⟩
    go_wp2
    go_ret
    exact ⟨rfl, hr, hf⟩
  · have c0 := obj_cell h 0
    simp only [rdrCells, List.getElem?_toArray, List.getElem?_cons_zero] at c0
    have HB := hide h
    have hl' := hl l rfl
    clear h hl
    rcases hg : grpR l 0 0 with _ | ⟨u, n⟩
    · have HG := hide hg
      clear hg
      go_enter Try.func70, Try.ntmps70
      go_wp2_with fail
      refine (groups_any _ _ (by rw [str_size]; omega)).mono ?_
      rintro e w' ⟨rfl, rfl⟩
      rw [show grpV (grpR (⟨l.toArray⟩ : ByteArray).data.toList 0 0) = .tuple #[.int .u64 0, .int .i64 0] from by rw [str_list, HG.out]; rfl]
      go_wp2_with fail
      refine (fail_any _ _ _ HB.out).mono ?_
      rintro e w' ⟨rfl, hr, hf⟩
      go_wp2
      go_ret
      rw [show rInt (some l) = (0, none) from by simp only [rInt, HG.out]]
      exact ⟨rfl, hr, hf⟩
    · obtain ⟨hu0, hu1, hn0, hn1⟩ := grpR_bound l 0 0 u n hg
      have HG := hide hg
      have hne : ((n : Int) == 0) = false := by simp; omega
      clear hg
      go_enter Try.func70, Try.ntmps70
      go_wp2_with fail
      refine (groups_any _ _ (by rw [str_size]; omega)).mono ?_
      rintro e w' ⟨rfl, rfl⟩
      rw [show grpV (grpR (⟨l.toArray⟩ : ByteArray).data.toList 0 0) = .tuple #[.int .u64 u, .int .i64 n] from by rw [str_list, HG.out]; rfl]
      go_wp2_with fail
      refine (take_ok _ _ n _ HB.out (by omega) (by omega)).mono ?_
      rintro e w' ⟨rfl, hr, hf⟩
      go_wp2
      go_ret
      rw [show rInt (some l) = (unz u, some (l.drop n)) from by simp only [rInt, HG.out]]
      exact ⟨ret_i64 (unz_bits u hu0 hu1), hr, hf⟩

theorem rInt_len {σ : Option (List UInt8)} {r : List UInt8} (h : (rInt σ).2 = some r) {N : Nat} (hl : ∀ l, σ = some l → l.length ≤ N) : r.length ≤ N := by
  rcases σ with _ | l
  · simp [rInt] at h
  · have := hl l rfl
    simp only [rInt] at h
    split at h
    · cases h
    · simp only [Option.some.injEq] at h
      rw [← h, List.length_drop]
      omega

theorem rByte_any (g : Nat) (σ : Option (List UInt8)) (w : World) (h : Rdr w g σ) (hl : ∀ l, σ = some l → l.length ≤ 1073741824) :
    Calls Try.prog 69 #[.pointer (some ⟨g, 0, none⟩)] w fun e w' => e = .returned (.int .i64 (rByte σ).1) ∧ Rdr w' g (rByte σ).2 ∧ Fr (· = g) w w' := by
  have bad : ∀ _ : ∀ l, σ = some l → l = [], Calls Try.prog 69 #[.pointer (some ⟨g, 0, none⟩)] w fun e w' => e = .returned (.int .i64 0) ∧ Rdr w' g none ∧ Fr (· = g) w w' := fun hn => by
    have HB := hide h
    have HN := hide hn
    clear h hl hn
    go_enter Try.func69, Try.ntmps69
    go_wp2_with fail
    refine (take_bad g σ 1 _ HB.out (fun l e => .inr (by rw [HN.out l e]; simp))).mono ?_
    rintro e w' ⟨rfl, hr, hf⟩
    go_wp2
    go_ret
    exact ⟨rfl, hr, hf⟩
  rcases σ with _ | l
  · exact bad (fun l e => by cases e)
  · rcases l with _ | ⟨b, r⟩
    · exact bad (fun l e => by cases e; rfl)
    · have HB := hide h
      have hl' := hl _ rfl
      clear h hl bad
      go_enter Try.func69, Try.ntmps69
      go_wp2_with fail
      refine (take_ok g (b :: r) 1 _ HB.out (by simp) (by omega)).mono ?_
      rintro e w' ⟨rfl, hr, hf⟩
      simp only [List.take_succ_cons, List.take_zero, List.drop_succ_cons, List.drop_zero] at hr ⊢
      have hr2 := hide hr
      clear hr
      go_wp2
      go_ret
      exact ⟨ret_i64 (show wrap64 (b.toNat : Int) = (b.toNat : Int) from by have := b.toNat_lt; unfold wrap64; omega), hr2.out, hf⟩

theorem rText_any (g : Nat) (σ : Option (List UInt8)) (w : World) (h : Rdr w g σ) (hl : ∀ l, σ = some l → l.length ≤ 1073741824) :
    Calls Try.prog 116 #[.pointer (some ⟨g, 0, none⟩)] w fun e w' => e = .returned (.string ⟨(rText σ).1.toArray⟩) ∧ Rdr w' g (rText σ).2 ∧ Fr (· = g) w w' := by
  have HB := hide h
  have HL := hide hl
  clear h hl
  go_enter Try.func116, Try.ntmps116
  go_wp2_with fail
  refine (rInt_any g σ _ HB.out HL.out).mono ?_
  rintro e w1 ⟨rfl, hr1, hf1⟩
  have HR1 := hide hr1
  have HF1 := hide hf1
  clear hr1 hf1
  by_cases hok : ∃ r, (rInt σ).2 = some r ∧ 0 ≤ (rInt σ).1 ∧ (rInt σ).1 ≤ (r.length : Int)
  · obtain ⟨r, h2, h0, h1⟩ := hok
    have hrl : r.length ≤ 1073741824 := rInt_len h2 HL.out
    obtain ⟨n, hn⟩ : ∃ n : Nat, (rInt σ).1 = n := ⟨(rInt σ).1.toNat, by omega⟩
    have ht : rText σ = (r.take n, some (r.drop n)) := by
      unfold rText
      rw [h2]
      simp only [hn]
      rw [if_pos (by omega)]
      rfl
    have hr := HR1.out
    rw [h2] at hr
    have HR := hide hr
    have HT := hide ht
    rw [hn]
    rw [hn] at h1
    clear h2 hr ht hn h0
    go_wp2_with fail
    refine (take_ok g r n _ HR.out (by omega) (by omega)).mono ?_
    rintro e w' ⟨rfl, hr, hf⟩
    go_wp2
    go_ret
    rw [HT.out]
    exact ⟨rfl, hr, HF1.out.trans hf (fun _ _ h => h)⟩
  · have ht : rText σ = ([], none) := by
      unfold rText
      split
      · rfl
      · rename_i r h2
        rw [if_neg (fun hh => hok ⟨r, h2, hh.1, hh.2⟩)]
    have HT := hide ht
    have HK := hide hok
    clear ht hok
    go_wp2_with fail
    refine (take_bad g (rInt σ).2 _ _ HR1.out (fun r e => ?_)).mono ?_
    · rcases Int.lt_or_le (rInt σ).1 0 with h | h
      · exact .inl h
      · exact .inr (Int.not_le.1 (fun h' => HK.out ⟨r, e, h, h'⟩))
    · rintro e w' ⟨rfl, hr, hf⟩
      go_wp2
      go_ret
      rw [HT.out]
      exact ⟨rfl, hr, HF1.out.trans hf (fun _ _ h => h)⟩

theorem rDone_any (g : Nat) (σ : Option (List UInt8)) (w : World) (h : Rdr w g σ) :
    Calls Try.prog 72 #[.pointer (some ⟨g, 0, none⟩)] w fun e w' => e = .returned (.int .i64 (rDone σ)) ∧ Below w.heap.size w w' := by
  have c0 := obj_cell h 0
  have c1 := obj_cell h 1
  clear h
  rcases σ with _ | l
  · simp only [rdrCells, List.getElem?_toArray, List.getElem?_cons_zero, List.getElem?_cons_succ] at c0 c1
    go_enter Try.func72, Try.ntmps72
    go_wp2
    go_ret
    exact ⟨rfl, Below.refl _ _⟩
  · simp only [rdrCells, List.getElem?_toArray, List.getElem?_cons_zero, List.getElem?_cons_succ] at c0 c1
    rcases l with _ | ⟨b, r⟩
    · go_enter Try.func72, Try.ntmps72
      go_wp2
      go_ret
      exact ⟨rfl, Below.refl _ _⟩
    · go_enter Try.func72, Try.ntmps72
      go_wp2
      go_ret
      refine ⟨?_, Below.refl _ _⟩
      simp [rDone]
end Go.Proofs.Ythcnoamgkkbkcaa
