/- Chapter 09, sector: Few; Write of anything; what stays. -/
import Derived.Test.YtpebilhdlblgoaaStD
namespace Go.Proofs.Ytpebilhdlblgoaa
open Go.RowKit

def FwS (w : World) (ll : Nat) (l : List SDeed) (wr : World) (iv : Value) : Prop := ∃ k : Nat, iv = .int .i64 (k : Int) ∧ k ≤ ll ∧ w = wr ∧ ∀ i (hi : i < l.length), i < k → l[i].s.size ≤ 3000
def FewOk (n : Int) (l : List SDeed) : Prop := l.length ≤ 40 ∧ n ≤ 300 ∧ ∀ d ∈ l, d.s.size ≤ 3000
set_option maxHeartbeats 4000000 in
set_option maxRecDepth 100000 in
theorem few09 (n : Int) (v : Value) (l : List SDeed) (w : World) (hv : SDeedArg w v l) : Calls Try.prog 18 #[.int .i64 n, v] w fun e w' => (e = .returned (.int .i64 0) ∨ (e = .returned (.int .i64 1) ∧ FewOk n l)) ∧ w = w' := by
  obtain ⟨A, cap, rfl⟩ := hv.slice
  have hlm := hv.len
  simp only [maxLen] at hlm
  have HV := hide hv
  obtain ⟨ll, hll⟩ : ∃ ll, ll = l.length := ⟨_, rfl⟩
  rw [← hll] at hlm HV ⊢
  have HLL := hide hll
  clear hv hll
  rcases Nat.lt_or_ge 40 ll with hbig | hbig
  · have hbig' : (40 : Int) < (ll : Int) := by omega
    go_enter Try.func18, Try.ntmps18
    go_wp2
    go_ret
    exact ⟨.inl rfl, rfl⟩
  have hbig' : ¬ (40 : Int) < (ll : Int) := by omega
  by_cases hn : 300 < n
  · go_enter Try.func18, Try.ntmps18
    go_wp2
    go_ret
    exact ⟨.inl rfl, rfl⟩
  have HS := hide (show FwS w ll l w (.int .i64 0) from ⟨0, rfl, Nat.zero_le _, rfl, fun i hi h => by omega⟩)
  go_enter Try.func18, Try.ntmps18
  go_wp2_with fail
  go_loopw [5] (fun i wr => FwS w ll l wr i) (fun i _ => ll - (intOf i).toNat)
  case atStart => exact HS.out
  case round =>
    obtain ⟨k, rfl, hk, rfl, hs⟩ := hrel
    have HSS := hide hs
    rcases Nat.lt_or_ge k ll with hkl | hkl
    · have hkl' : k < l.length := by have := HLL.out; omega
      have HV2 := HV.out
      rw [HLL.out] at HV2
      obtain ⟨a, cap', e, hc1, hc2, q0, q1, q2, q3, q4⟩ := HV2.cells hkl'
      cases e
      simp only [maxLen] at hc2
      have hcl : ll ≤ cap := by have := HLL.out; omega
      obtain ⟨x, hx⟩ : ∃ x, x = l[k].s := ⟨_, rfl⟩
      rw [← hx] at q3
      have hki : (k : Int) < (ll : Int) := by omega
      have HX := hide hx
      clear q0 q1 q2 q4 hs hx HV2 hc1
      rcases Nat.lt_or_ge 3000 x.size with hxs | hxs
      · have hxi : (3000 : Int) < (x.size : Int) := by omega
        go_wp2
        go_ret
        exact ⟨.inl rfl, rfl⟩
      · have hxi : ¬ (3000 : Int) < (x.size : Int) := by omega
        go_wp2
        refine ⟨⟨k + 1, by rw [Int.natCast_add]; rfl, hkl, rfl, fun i hi h => ?_⟩, by simp only [intOf]; omega⟩
        rcases (by omega : i < k ∨ i = k) with h | h
        · exact HSS.out i hi h
        · subst h
          rw [← HX.out]
          exact hxs
    · have hke : k = ll := by omega
      subst hke
      clear hs
      go_wp2
      go_ret
      refine ⟨.inr ⟨rfl, by have := HLL.out; omega, by omega, fun d hd => ?_⟩, rfl⟩
      obtain ⟨i, hi, rfl⟩ := List.getElem_of_mem hd
      exact HSS.out i hi (by have := HLL.out; omega)
/-- A device behind a write of anything. -/
def Dev.wr (D : Dev) (a : Int) (s : ByteArray) : Dev := if chkE D.now.length a ((s.size / 64 : Nat) : Int) (decide (s.size % 64 = 0)) D.lost = 0 then D.puts a.toNat s (s.size / 64) else D
theorem chk_zero {n a k : Int} {ok lost : Bool} (h : chkE n a k ok lost = 0) : 0 ≤ a ∧ 1 ≤ k ∧ ok = true ∧ a + k ≤ n ∧ lost = false := by
  unfold chkE at h
  split at h
  · cases h
  · rename_i h1
    split at h
    · cases h
    · rename_i h2
      split at h
      · cases h
      · rename_i h3
        refine ⟨by omega, by omega, ?_, by omega, by simpa using h3⟩
        rcases ok with _ | _
        · exact absurd (.inr (.inr rfl)) h1
        · rfl
theorem wr_cases (D : Dev) (a : Int) (s : ByteArray) : D.wr a s = D ∨ ∃ (p n : Nat), a = (p : Int) ∧ s.size = n * 64 ∧ 1 ≤ n ∧ p + n ≤ D.now.length ∧ D.lost = false ∧ D.wr a s = D.puts p s n := by
  unfold Dev.wr
  split
  · rename_i h
    obtain ⟨h1, h2, h3, h4, h5⟩ := chk_zero h
    have h3' : s.size % 64 = 0 := by simpa using h3
    exact .inr ⟨a.toNat, s.size / 64, by omega, by omega, by omega, by omega, h5, rfl⟩
  · exact .inl rfl
set_option maxHeartbeats 1000000 in
theorem dwrite_gen {w : World} {g c r L cap : Nat} {D : Dev} (h : DV w g c (.slice (some ⟨r, 0, none⟩) L cap) D) (hDL : D.now.length = L) (hL : L ≤ 65536) (a : Int) (ha : a ≤ 9223372036854775807) (s : ByteArray) (hs : s.size ≤ 1073741824) :
    Calls Try.prog 21 #[.pointer (some ⟨g, 0, none⟩), .int .i64 a, .string s] w fun e w' => ∃ ec, e = .returned (.int .i64 ec) ∧ DV w' g c (.slice (some ⟨r, 0, none⟩) L cap) (D.wr a s) ∧ Fr (fun j => j = c ∨ j = r) w w' := by
  by_cases hc : chkE D.now.length a ((s.size / 64 : Nat) : Int) (decide (s.size % 64 = 0)) D.lost = 0
  · obtain ⟨h1, h2, h3, h4, h5⟩ := chk_zero hc
    have h3' : s.size % 64 = 0 := by simpa using h3
    have hw := dwrite_ok h h5 a.toNat (s.size / 64) s (by omega) (by omega) (by omega) hL hDL
    rw [show ((a.toNat : Nat) : Int) = a by omega] at hw
    refine hw.mono ?_
    rintro e w' ⟨he, hv, hf⟩
    refine ⟨0, he, ?_, hf⟩
    unfold Dev.wr
    rw [if_pos hc]
    exact hv
  · have hw := dwrite_no h.1 (by omega) a ha s (s.size / 64) (s.size % 64) (by omega) (by omega) hs (decide (s.size % 64 = 0)) rfl (by rw [← hDL]; exact hc)
    refine hw.mono ?_
    rintro e w' ⟨he, rfl⟩
    refine ⟨_, he, ?_, Fr.refl _ _⟩
    unfold Dev.wr
    rw [if_neg hc]
    exact h
/-- What a device of L sectors must be. -/
structure DOk (L : Nat) (D : Dev) : Prop where
  ok : Dok D
  len : D.now.length = L
  lost : D.lost = false
theorem DOk.wr {L : Nat} {D : Dev} (h : DOk L D) (a : Int) (s : ByteArray) : DOk L (D.wr a s) := by
  rcases wr_cases D a s with e | ⟨p, n, -, h2, -, h4, -, e⟩
  · rw [e]; exact h
  · rw [e]
    exact ⟨h.ok.puts h4 h2, by rw [puts_len]; exact h.len, by rw [puts_lost]; exact h.lost⟩
theorem DOk.flush {L : Nat} {D : Dev} (h : DOk L D) : DOk L D.flush := ⟨h.ok.flush, h.len, h.lost⟩
theorem DOk.crash {L : Nat} {D : Dev} (h : DOk L D) (keep tear : Int) : DOk L (D.crash keep tear) := ⟨h.ok.crash keep tear, by rw [crash_len]; exact h.len, h.lost⟩
/-- Since the flush F only loose sectors have turned, and of those the map knows what they were. -/
def Since (F D : Dev) : Prop := D.now.length = F.now.length ∧ ∀ j : Nat, (D.sure (j : Int) = none → D.now[j]? = F.now[j]?) ∧ (∀ x, D.sure (j : Int) = some x → F.now[j]? = some x)
theorem Since.start (D : Dev) : Since D.flush D.flush := ⟨rfl, fun _ => ⟨fun _ => rfl, fun x h => by cases h⟩⟩
theorem Since.wr {F D : Dev} (h : Since F D) (a : Int) (s : ByteArray) : Since F (D.wr a s) := by
  rcases wr_cases D a s with e | ⟨p, n, -, h2, -, h4, -, e⟩
  · rw [e]; exact h
  · rw [e]
    refine ⟨by rw [puts_len]; exact h.1, fun j => ?_⟩
    rw [puts_sure D p s n h4, puts_now D p s n h4]
    by_cases hj : p ≤ j ∧ j < p + n
    · rw [if_pos (show (p : Int) ≤ (j : Int) ∧ (j : Int) < ((p + n : Nat) : Int) by omega), if_pos hj]
      refine ⟨(fun e => by cases e), fun x e => ?_⟩
      simp only [Option.some.injEq] at e
      rcases e2 : D.sure (j : Int) with _ | y
      · rw [e2, Option.getD_none, Int.toNat_natCast] at e
        have hlt : j < D.now.length := by omega
        rw [← (h.2 j).1 e2, List.getElem?_eq_getElem hlt, ← e, List.getD_eq_getElem?_getD, List.getElem?_eq_getElem hlt]
        rfl
      · rw [e2, Option.getD_some] at e
        rw [← e]
        exact (h.2 j).2 y e2
    · rw [if_neg (show ¬ ((p : Int) ≤ (j : Int) ∧ (j : Int) < ((p + n : Nat) : Int)) by omega), if_neg hj]
      exact h.2 j
theorem crN_else {D : Dev} (hd : Dok D) (keep tear : Int) {j : Nat} (hj : D.sure (j : Int) = none) : ∀ k, k ≤ (looseL D).length → (crN D keep tear k).1[j]? = D.now[j]?
  | 0, _ => rfl
  | k + 1, hk => by
    have ih := crN_else hd keep tear hj k (by omega)
    obtain ⟨m, x, h1, h2, h3, h4, h5, h6⟩ := loose_at hd (k := k) (by omega)
    have hne : m ≠ j := fun e => by
      subst e
      rw [h4] at hj
      cases hj
    rcases hkb : kb keep k with _ | _
    · rcases htn : (crN D keep tear k).2 with _ | _
      · rw [crN_torn hkb htn h2 h6 rfl rfl, List.getElem?_set_ne hne, ih]
      · rw [crN_plain hkb htn h2 h6, List.getElem?_set_ne hne, ih]
    · rw [crN_kept hkb, ih]
/-- A sector of what is read. -/
theorem catL_at : ∀ (l : List ByteArray), (∀ x ∈ l, x.size = 64) → ∀ (i : Nat) (h : i < l.length), (catL l).extract (64 * i) (64 * i + 64) = l[i]
  | [], _, i, h => by simp at h
  | x :: l, hs, i, h => by
    have hx := hs x (by simp)
    have hxl : x.data.toList.length = 64 := hx
    have e : (catL (x :: l)).data.toList = x.data.toList ++ (catL l).data.toList := by
      unfold catL
      rw [str_list, str_list, List.flatMap_cons]
    rw [extract_str, e]
    match i with
    | 0 =>
      rw [Nat.mul_zero, List.drop_zero, show 0 + 64 - 0 = 64 by omega, List.take_left' hxl, str_eta]
      rfl
    | i + 1 =>
      have ih := catL_at l (fun y hy => hs y (by simp [hy])) i (by simpa using h)
      rw [extract_str] at ih
      rw [show 64 * (i + 1) = 64 + 64 * i by omega, ← List.drop_drop, List.drop_left' hxl]
      rw [show 64 + 64 * i + 64 - (64 + 64 * i) = 64 * i + 64 - 64 * i by omega, ih]
      rfl
theorem read_all (D : Dev) : D.read 0 D.now.length = catL D.now := by
  unfold Dev.read
  rw [List.drop_zero, List.take_length]
end Go.Proofs.Ytpebilhdlblgoaa
