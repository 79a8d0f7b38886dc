/- Chapter 31, segment: where each piece stands in a segment, plain. -/
import Derived.Test.YtljmaicobafgkaaSeg13
namespace Go.Proofs.Ytljmaicobafgkaa
open Go.RowKit

theorem entsAt_get : ∀ (l : List Pc) (p i : Nat) (hi : i < l.length) (hi2 : i < (entsAt p l).length), (entsAt p l)[i] = l[i].ent (p + (pcText (l.take i)).length)
  | [], p, i, hi, _ => by simp at hi
  | x :: l, p, 0, _, _ => by simp [entsAt, pcText]
  | x :: l, p, i + 1, hi, hi2 => by
    simp only [List.length_cons] at hi
    have := entsAt_get l (p + x.body.size) i (by omega) (by rw [entsAt_len]; omega)
    simp only [entsAt, List.getElem_cons_succ, this, List.take_succ_cons, pcText_cons, List.length_append, ← size_list, Nat.add_assoc]
theorem segB_split (l : List Pc) (i : Nat) (hi : i < l.length) : ∃ r, segB l = pcText (l.take i) ++ (l[i].body.data.toList ++ r) := by
  have h : l = l.take i ++ l[i] :: l.drop (i + 1) := by
    conv => lhs; rw [← List.take_append_drop i l, List.drop_eq_getElem_cons hi]
  refine ⟨pcText (l.drop (i + 1)) ++ (idxB (entsAt 0 l) ++ le4 ((idxB (entsAt 0 l)).length : Int)), ?_⟩
  have h2 : pcText l = pcText (l.take i) ++ (l[i].body.data.toList ++ pcText (l.drop (i + 1))) := by
    have h3 := congrArg pcText h
    rw [show pcText (l.take i ++ l[i] :: l.drop (i + 1)) = pcText (l.take i) ++ (l[i].body.data.toList ++ pcText (l.drop (i + 1))) from by simp only [pcText, List.flatMap_append, List.flatMap_cons]] at h3
    exact h3
  unfold segB
  rw [h2]
  simp only [List.append_assoc]
theorem seg_body (l : List Pc) (i : Nat) (hi : i < l.length) : (segS l).extract (pcText (l.take i)).length ((pcText (l.take i)).length + l[i].body.size) = l[i].body ∧ (pcText (l.take i)).length + l[i].body.size ≤ (segS l).size := by
  obtain ⟨r, hr⟩ := segB_split l i hi
  have hl := segS_list l
  rw [hr, List.append_assoc, List.append_assoc] at hl
  refine ⟨?_, ?_⟩
  · rw [← str_eta (segS l), hl, size_list, ext_mid, str_eta]
  · rw [size_list (segS l), hl, List.length_append, List.length_append, ← size_list]
    omega
end Go.Proofs.Ytljmaicobafgkaa
