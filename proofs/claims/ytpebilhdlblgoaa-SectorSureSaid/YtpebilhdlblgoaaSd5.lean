/- Chapters 09 and 10, sector: what a device is behind writes (plain). -/
import Derived.Test.YtpebilhdlblgoaaSd4
namespace Go.Proofs.Ytpebilhdlblgoaa
open Go.RowKit

def chunk (s : ByteArray) (i : Nat) : ByteArray := s.extract (i * 64) ((i + 1) * 64)
def Dev.put (D : Dev) (k : Nat) (x : ByteArray) : Dev := ⟨D.now.set k x, if (D.sure k).isSome then D.sure else upm D.sure k (some (D.now.getD k ⟨#[]⟩)), D.lost⟩
def Dev.puts (D : Dev) (a : Nat) (s : ByteArray) : Nat → Dev
  | 0 => D
  | i + 1 => (D.puts a s i).put (a + i) (chunk s i)
/-- What a device must be: sectors of 64 bytes; loose ones are sectors. -/
structure Dok (D : Dev) : Prop where
  sz : ∀ x ∈ D.now, x.size = 64
  dom : ∀ k x, D.sure k = some x → x.size = 64 ∧ 0 ≤ k ∧ k < (D.now.length : Int)
theorem chunk_size (s : ByteArray) (i : Nat) (h : (i + 1) * 64 ≤ s.size) : (chunk s i).size = 64 := by
  unfold chunk
  rw [ByteArray.size_extract]
  omega
theorem puts_now (D : Dev) (a : Nat) (s : ByteArray) : ∀ n, a + n ≤ D.now.length → ∀ j : Nat, (D.puts a s n).now[j]? = if a ≤ j ∧ j < a + n then some (chunk s (j - a)) else D.now[j]?
  | 0, _, j => by
    rw [if_neg (by omega)]
    rfl
  | n + 1, h, j => by
    have ih := puts_now D a s n (by omega)
    have hl : (D.puts a s n).now.length = D.now.length := by
      apply Nat.le_antisymm
      · refine Nat.le_of_not_lt (fun hlt => ?_)
        have h1 := ih D.now.length
        rw [if_neg (by omega), List.getElem?_eq_getElem hlt, List.getElem?_eq_none (Nat.le_refl _)] at h1
        cases h1
      · refine Nat.le_of_not_lt (fun hlt => ?_)
        have h1 := ih (D.puts a s n).now.length
        rw [List.getElem?_eq_none (Nat.le_refl _)] at h1
        split at h1
        · cases h1
        · rw [List.getElem?_eq_getElem hlt] at h1
          cases h1
    show ((D.puts a s n).now.set (a + n) (chunk s n))[j]? = _
    by_cases hj : j = a + n
    · subst hj
      rw [List.getElem?_set_self (by omega), if_pos (by omega), show a + n - a = n by omega]
    · rw [List.getElem?_set_ne (fun e => hj e.symm), ih j]
      by_cases hc : a ≤ j ∧ j < a + n
      · rw [if_pos hc, if_pos (by omega)]
      · rw [if_neg hc, if_neg (by omega)]
theorem puts_len (D : Dev) (a : Nat) (s : ByteArray) : ∀ n, (D.puts a s n).now.length = D.now.length
  | 0 => rfl
  | n + 1 => by
    show ((D.puts a s n).now.set (a + n) (chunk s n)).length = _
    rw [List.length_set, puts_len D a s n]
theorem puts_lost (D : Dev) (a : Nat) (s : ByteArray) : ∀ n, (D.puts a s n).lost = D.lost
  | 0 => rfl
  | n + 1 => puts_lost D a s n
theorem puts_sure (D : Dev) (a : Nat) (s : ByteArray) : ∀ n, a + n ≤ D.now.length → ∀ j : Int, (D.puts a s n).sure j = if (a : Int) ≤ j ∧ j < ((a + n : Nat) : Int) then some ((D.sure j).getD (D.now.getD j.toNat ⟨#[]⟩)) else D.sure j
  | 0, _, j => by
    rw [if_neg (by omega)]
    rfl
  | n + 1, h, j => by
    have ih := puts_sure D a s n (by omega)
    have hx : (D.puts a s n).sure ((a + n : Nat) : Int) = D.sure ((a + n : Nat) : Int) := by rw [ih, if_neg (by omega)]
    have hn : (D.puts a s n).now.getD (a + n) ⟨#[]⟩ = D.now.getD (a + n) ⟨#[]⟩ := by
      rw [List.getD_eq_getElem?_getD, List.getD_eq_getElem?_getD, puts_now D a s n (by omega), if_neg (by omega)]
    show (if ((D.puts a s n).sure ((a + n : Nat) : Int)).isSome then (D.puts a s n).sure else upm (D.puts a s n).sure ((a + n : Nat) : Int) (some ((D.puts a s n).now.getD (a + n) ⟨#[]⟩))) j = _
    rw [hx, hn]
    by_cases hj : j = ((a + n : Nat) : Int)
    · subst hj
      rw [if_pos (show (a : Int) ≤ ((a + n : Nat) : Int) ∧ ((a + n : Nat) : Int) < ((a + (n + 1) : Nat) : Int) by omega), Int.toNat_natCast]
      rcases e : D.sure ((a + n : Nat) : Int) with _ | y
      · rw [if_neg (by simp), upm_same]
        rfl
      · rw [if_pos (by simp), hx, e]
        rfl
    · have e1 : (if (D.sure ((a + n : Nat) : Int)).isSome then (D.puts a s n).sure else upm (D.puts a s n).sure ((a + n : Nat) : Int) (some (D.now.getD (a + n) ⟨#[]⟩))) j = (D.puts a s n).sure j := by
        split
        · rfl
        · exact upm_other _ _ hj
      rw [e1, ih j]
      by_cases hc : (a : Int) ≤ j ∧ j < ((a + n : Nat) : Int)
      · rw [if_pos hc, if_pos (by omega)]
      · rw [if_neg hc, if_neg (by omega)]
theorem Dok.puts {D : Dev} (h : Dok D) {a n : Nat} {s : ByteArray} (ha : a + n ≤ D.now.length) (hs : s.size = n * 64) : Dok (D.puts a s n) := by
  refine ⟨fun x hx => ?_, fun k x hk => ?_⟩
  · obtain ⟨j, hj⟩ := List.getElem?_of_mem hx
    rw [puts_now D a s n ha] at hj
    split at hj
    · cases hj
      exact chunk_size _ _ (by omega)
    · exact h.sz x (List.mem_of_getElem? hj)
  · rw [puts_sure D a s n ha] at hk
    rw [puts_len]
    split at hk
    · rename_i hc
      simp only [Option.some.injEq] at hk
      refine ⟨?_, by omega, by omega⟩
      rcases e : D.sure k with _ | y
      · rw [e, Option.getD_none] at hk
        have hlt : k.toNat < D.now.length := by omega
        rw [List.getD_eq_getElem?_getD, List.getElem?_eq_getElem hlt, Option.getD_some] at hk
        rw [← hk]
        exact h.sz _ (List.getElem_mem hlt)
      · rw [e, Option.getD_some] at hk
        rw [← hk]
        exact (h.dom k y e).1
    · exact h.dom k x hk
theorem Dok.flush {D : Dev} (h : Dok D) : Dok D.flush := ⟨h.sz, fun k x hk => by cases hk⟩
/-- Texts, one behind the other. -/
def catL (l : List ByteArray) : ByteArray := ⟨(l.flatMap (·.data.toList)).toArray⟩
theorem catL_size {l : List ByteArray} (h : ∀ x ∈ l, x.size = 64) : (catL l).size = l.length * 64 := by
  rw [size_list, catL, str_list]
  induction l with
  | nil => rfl
  | cons x l ih =>
    rw [List.flatMap_cons, List.length_append, ih (fun y hy => h y (by simp [hy])), ← size_list, h x (by simp), List.length_cons]
    omega
/-- Sectors that are read. -/
def Dev.read (D : Dev) (a n : Nat) : ByteArray := catL ((D.now.drop a).take n)
theorem read_size {D : Dev} (h : Dok D) {a n : Nat} (ha : a + n ≤ D.now.length) : (D.read a n).size = n * 64 := by
  unfold Dev.read
  rw [catL_size (fun x hx => h.sz x (List.mem_of_mem_drop (List.mem_of_mem_take hx))), List.length_take, List.length_drop]
  congr 1
  omega
theorem catL_chunks (s : ByteArray) : ∀ n, n * 64 ≤ s.size → ((List.range n).map (chunk s)).flatMap (·.data.toList) = s.data.toList.take (n * 64)
  | 0, _ => by simp
  | n + 1, h => by
    rw [List.range_succ, List.map_append, List.flatMap_append, catL_chunks s n (by omega)]
    simp only [List.map_cons, List.map_nil, List.flatMap_cons, List.flatMap_nil, List.append_nil, chunk]
    rw [extract_str, str_list, show (n + 1) * 64 - n * 64 = 64 by omega, Nat.add_mul, Nat.one_mul, List.take_add]
theorem read_put {D : Dev} {a n : Nat} {s : ByteArray} (ha : a + n ≤ D.now.length) (hs : s.size = n * 64) : (D.puts a s n).read a n = s := by
  have e : ((D.puts a s n).now.drop a).take n = (List.range n).map (chunk s) := by
    apply List.ext_getElem?
    intro j
    rw [List.getElem?_take]
    by_cases hj : j < n
    · rw [if_pos hj, List.getElem?_drop, puts_now D a s n ha, if_pos (by omega), List.getElem?_map, List.getElem?_range hj, show a + j - a = j by omega]
      rfl
    · rw [if_neg hj, List.getElem?_eq_none (by simp; omega)]
  unfold Dev.read catL
  rw [e, catL_chunks s n (by omega), ← hs, size_list, List.take_length, str_eta]
/-- Other sectors are as they were. -/
theorem read_same {D E : Dev} {a n : Nat} (h : ∀ j, a ≤ j → j < a + n → E.now[j]? = D.now[j]?) : E.read a n = D.read a n := by
  unfold Dev.read
  congr 1
  apply List.ext_getElem?
  intro j
  rw [List.getElem?_take, List.getElem?_take]
  by_cases hj : j < n
  · rw [if_pos hj, if_pos hj, List.getElem?_drop, List.getElem?_drop, h _ (by omega) (by omega)]
  · rw [if_neg hj, if_neg hj]
end Go.Proofs.Ytpebilhdlblgoaa
