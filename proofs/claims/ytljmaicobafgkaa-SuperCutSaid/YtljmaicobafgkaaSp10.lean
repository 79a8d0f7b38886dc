/- Chapter 10, super: what is read behind writes (plain). -/
import Derived.Test.YtljmaicobafgkaaSp9
namespace Go.Proofs.Ytljmaicobafgkaa
open Go.RowKit

theorem gen_pick (x y : Option (Nat × ByteArray)) : genO x ≤ genO (pick x y) ∧ genO y ≤ genO (pick x y) := by
  unfold pick
  split <;> omega
def opl (D : Dev) (p : Nat) : Option (Nat × ByteArray) := opn (D.read p 4) (p : Int)
theorem newest_eq (D : Dev) : newest D = pick (pick none (opl D 0)) (opl D 4) := rfl
theorem gen_newest (D : Dev) : genO (opl D 0) ≤ genO (newest D) ∧ genO (opl D 4) ≤ genO (newest D) := by
  have h1 := gen_pick (pick none (opl D 0)) (opl D 4)
  have h2 := gen_pick none (opl D 0)
  rw [newest_eq]
  omega
theorem pick_none {x : Option (Nat × ByteArray)} (h : x = none ∨ 1 ≤ genO x) : pick none x = x := by
  unfold pick
  rcases h with rfl | h
  · rfl
  · rw [if_pos (by show 0 < genO x; omega)]
theorem opl_gen (D : Dev) (p : Nat) : opl D p = none ∨ 1 ≤ genO (opl D p) := by
  rcases e : opl D p with _ | q
  · exact .inl rfl
  · obtain ⟨g, b⟩ := q
    exact .inr (opn_some e).1
theorem newest_left {D : Dev} {q : Nat × ByteArray} (h : opl D 0 = some q) (h2 : genO (opl D 4) < q.1) : newest D = some q := by
  rw [newest_eq, pick_none (opl_gen D 0), h]
  unfold pick
  rw [if_neg (by show ¬ q.1 < genO (opl D 4); omega)]
theorem newest_right {D : Dev} {q : Nat × ByteArray} (h : opl D 4 = some q) (h2 : genO (opl D 0) < q.1) : newest D = some q := by
  rw [newest_eq, pick_none (opl_gen D 0), h]
  unfold pick
  rw [if_pos (by show genO (opl D 0) < q.1; exact h2)]
theorem opl_same {D E : Dev} {p : Nat} (h : ∀ j, p ≤ j → j < p + 4 → E.now[j]? = D.now[j]?) : opl E p = opl D p := by
  unfold opl
  rw [read_same h]
theorem plcN_or (m : Nat) : plcN m = 0 ∨ plcN m = 4 := by unfold plcN; omega
theorem state_now {D : Dev} (hl : D.now.length = 8) (s : ByteArray) (j : Nat) (h : ¬ (plcN (genO (newest D) + 1) ≤ j ∧ j < plcN (genO (newest D) + 1) + 4)) : (D.state s).now[j]? = D.now[j]? := by
  have hp := plcN_or (genO (newest D) + 1)
  unfold Dev.state
  rw [puts_now D _ _ 4 (by omega), if_neg h]
theorem state_opl {D : Dev} (hl : D.now.length = 8) (s : ByteArray) (hs : s.size ≤ 244) (hg : genO (newest D) + 1 < 2147483648) : opl (D.state s) (plcN (genO (newest D) + 1)) = some (genO (newest D) + 1, s) := by
  have hp := plcN_or (genO (newest D) + 1)
  unfold opl Dev.state
  rw [read_put (by omega) (by rw [pack_len _ _ hs])]
  exact opn_good ⟨by omega, hg, hs, rfl, rfl⟩
theorem next_opl (D : Dev) (s : ByteArray) (p : Nat) : opl (D.next s) p = opl (D.state s) p := rfl
/-- What was written last is read. -/
theorem newest_next {D : Dev} (hl : D.now.length = 8) (s : ByteArray) (hs : s.size ≤ 244) (hg : genO (newest D) + 1 < 2147483648) : newest (D.next s) = some (genO (newest D) + 1, s) := by
  have h1 := state_opl hl s hs hg
  have h2 := gen_newest D
  rcases plcN_or (genO (newest D) + 1) with e | e
  · rw [e] at h1
    refine newest_left (by rw [next_opl]; exact h1) ?_
    rw [next_opl, opl_same (D := D) (fun j h3 h4 => state_now hl s j (by omega))]
    show _ < genO (newest D) + 1
    omega
  · rw [e] at h1
    refine newest_right (by rw [next_opl]; exact h1) ?_
    rw [next_opl, opl_same (D := D) (fun j h3 h4 => state_now hl s j (by omega))]
    show _ < genO (newest D) + 1
    omega
theorem state_ok {D : Dev} (hd : Dok D) (hl : D.now.length = 8) (s : ByteArray) (hs : s.size ≤ 244) : Dok (D.state s) := by
  have hp := plcN_or (genO (newest D) + 1)
  exact hd.puts (by omega) (by rw [pack_len _ _ hs])
theorem next_ok {D : Dev} (hd : Dok D) (hl : D.now.length = 8) (s : ByteArray) (hs : s.size ≤ 244) : Dok (D.next s) := (state_ok hd hl s hs).flush
theorem next_len (D : Dev) (s : ByteArray) : (D.next s).now.length = D.now.length := puts_len _ _ _ _
theorem next_lost (D : Dev) (s : ByteArray) : (D.next s).lost = D.lost := puts_lost _ _ _ _
theorem new_none : newest (newD 8) = none := by
  have h0 : opl (newD 8) 0 = none := by
    unfold opl opn
    rw [show openL ((newD 8).read 0 4).data.toList = none by decide +kernel]
  have h4 : opl (newD 8) 4 = none := by
    unfold opl opn
    rw [show openL ((newD 8).read 4 4).data.toList = none by decide +kernel]
  rw [newest_eq, h0, h4]
  rfl
end Go.Proofs.Ytljmaicobafgkaa
