/- The walks of sums.Seal and Open. -/
import Derived.Test.YtljmaicobafgkaaSums
import Derived.Test.YtljmaicobafgkaaBytes
import Derived.Deep.RegionWith
import Derived.Lib.IndexBytes
namespace Go.Proofs.Ytljmaicobafgkaa
open Go.RowKit

def sealS (s : ByteArray) : ByteArray := s ++ ⟨(le4 (crc s.data.toList)).toArray⟩
theorem seal_any (s : ByteArray) (w : World) (hs : s.size ≤ 4611686018427387904) :
    Calls Try.prog 117 #[.string s] w fun e w' => e = .returned (.string (sealS s)) ∧ Below w.heap.size w w' := by
  have hsz : s.size + (⟨(le4 (crc s.data.toList)).toArray⟩ : ByteArray).size ≤ 9223372036854775807 := by rw [str_size]; show s.size + 4 ≤ _; omega
  go_enter Try.func117, Try.ntmps117
  go_wp2_with (first | (go_at_call 171; refine (sum_any _ _ (by omega)).mono ?_; rintro e w' ⟨rfl, rfl⟩) | (go_at_call 170; refine (four_any _ _ (crc_range _).1 (crc_range _).2).mono ?_; rintro e w' ⟨rfl, hb⟩))
  go_ret
  exact ⟨rfl, hb⟩

theorem open_short (s : ByteArray) (w : World) (hs : s.size < 4) :
    Calls Try.prog 120 #[.string s] w fun e w' => e = .returned (.tuple #[.string ⟨#[]⟩, .int .i64 2]) ∧ Below w.heap.size w w' := by
  have h : (s.size : Int) - 4 < 0 := by omega
  go_enter Try.func120, Try.ntmps120
  go_wp2
  go_ret2
  exact ⟨rfl, Below.refl _ _⟩
/-- What a text with a right sum holds. -/
def openL (l : List UInt8) : Option (List UInt8) :=
  if le4 (crc (l.take (l.length - 4))) = l.drop (l.length - 4) then some (l.take (l.length - 4)) else none
def openV (l : List UInt8) : Value :=
  match openL l with
  | some t => .tuple #[.string ⟨t.toArray⟩, .int .i64 0]
  | none => .tuple #[.string ⟨#[]⟩, .int .i64 4]
theorem openV_yes {l : List UInt8} {n : Nat} (hn : l.length = n + 4) (h : le4 (crc (l.take n)) = l.drop n) : openV l = .tuple #[.string ⟨(l.take n).toArray⟩, .int .i64 0] := by
  have e : l.length - 4 = n := by omega
  simp [openV, openL, e, h]
theorem openV_no {l : List UInt8} {n : Nat} (hn : l.length = n + 4) (h : ¬ le4 (crc (l.take n)) = l.drop n) : openV l = .tuple #[.string ⟨#[]⟩, .int .i64 4] := by
  have e : l.length - 4 = n := by omega
  simp [openV, openL, e, h]
theorem extract_str (s : ByteArray) (a b : Nat) : s.extract a b = ⟨((s.data.toList.drop a).take (b - a)).toArray⟩ := by
  rw [← str_eta (s.extract a b), Lib.extract_data]
theorem open_long (s : ByteArray) (w : World) (hs0 : 4 ≤ s.size) (hs2 : s.size ≤ 9223372036854775807) :
    Calls Try.prog 120 #[.string s] w fun e w' => e = .returned (openV s.data.toList) ∧ Below w.heap.size w w' := by
  obtain ⟨n, hs⟩ : ∃ n, s.size = n + 4 := ⟨s.size - 4, by omega⟩
  have h : (s.size : Int) - 4 = (n : Int) := by omega
  have h1 : (n : Int) ≤ s.size := by omega
  have h2 : n ≤ s.size := by omega
  have h3 : ((n : Int) < 0) = False := by simp
  have HS := hide hs
  clear hs
  have hx : (s.extract n s.size).toList = s.data.toList.drop n := by rw [Lib.toList_data, Lib.extract_to_end]
  have hy : s.extract 0 n = ⟨(s.data.toList.take n).toArray⟩ := by rw [extract_str]; simp
  have hz : (⟨(s.data.toList.take n).toArray⟩ : ByteArray).size ≤ 9223372036854775807 := by
    rw [str_size, List.length_take]
    have := size_list s
    omega
  by_cases he : le4 (crc (s.data.toList.take n)) = s.data.toList.drop n
  · have hv := hide (openV_yes (l := s.data.toList) HS.out he)
    have hd : (!le4 (crc (s.data.toList.take n)) == s.data.toList.drop n) = false := by simp [he]
    clear he
    go_enter Try.func120, Try.ntmps120
    go_wp2
    go_region_with (first | (go_at_call 171; refine (sum_any _ _ hz).mono ?_; rintro e w' ⟨rfl, rfl⟩) | (go_at_call 170; refine (four_any _ _ (crc_range _).1 (crc_range _).2).mono ?_; rintro e w' ⟨rfl, hb⟩))
    all_goals
      go_wp2
      go_ret2
      rw [hv.out]
      exact ⟨rfl, undrew hb⟩
  · have hv := hide (openV_no (l := s.data.toList) HS.out he)
    have hd : (!le4 (crc (s.data.toList.take n)) == s.data.toList.drop n) = true := by simp [he]
    clear he
    go_enter Try.func120, Try.ntmps120
    go_wp2
    go_region_with (first | (go_at_call 171; refine (sum_any _ _ hz).mono ?_; rintro e w' ⟨rfl, rfl⟩) | (go_at_call 170; refine (four_any _ _ (crc_range _).1 (crc_range _).2).mono ?_; rintro e w' ⟨rfl, hb⟩))
    all_goals
      go_wp2
      go_ret2
      rw [hv.out]
      exact ⟨rfl, undrew hb⟩
end Go.Proofs.Ytljmaicobafgkaa
