/- Chapter 10, super: Read. -/
import Derived.Test.YtljmaicobafgkaaSp7
import Derived.Test.YtljmaicobafgkaaSd8
namespace Go.Proofs.Ytljmaicobafgkaa
open Go.RowKit

theorem sopen_any (s : ByteArray) (at_ : Int) (w : World) (hs : s.size = 256) : Calls Try.prog 156 #[.string s, .int .i64 at_] w fun e w' =>
    e = .returned (.tuple #[.agg #[.int .i64 (genO (opn s at_) : Int), .int .i64 ((bodyO (opn s at_)).size : Int)], .string (bodyO (opn s at_))]) ∧ Below w.heap.size w w' := by
  rcases ho : openL s.data.toList with _ | t
  · have e : opn s at_ = none := by unfold opn; rw [ho]
    rw [e]
    exact sopen_none s at_ w hs ho
  · have ht : t.length = 252 := by
      rw [openL_is ho, List.length_take, ← size_list]
      omega
    have h1 := sopen_walk s ⟨t.toArray⟩ at_ w hs ht (by unfold openV; rw [ho])
    have e1 : (⟨t.toArray⟩ : ByteArray).extract 4 (⟨t.toArray⟩ : ByteArray).size = ⟨(t.drop 4).toArray⟩ := by
      rw [extract_str, str_list, str_size, List.take_of_length_le (by simp)]
    have e2 : ∀ n, (⟨t.toArray⟩ : ByteArray).extract 8 (8 + n) = ⟨((t.drop 8).take n).toArray⟩ := fun n => by
      rw [extract_str, str_list, show 8 + n - 8 = n by omega]
    have e : opnT s ⟨t.toArray⟩ at_ = opn s at_ := by
      unfold opnT opn
      rw [ho]
      dsimp only
      rw [e1, e2]
    rw [e] at h1
    exact h1
def errO (x : Option (Nat × ByteArray)) : Int := match x with
  | some _ => 0
  | none => 7
/-- The newer one of what stands and what comes. -/
def pick (x y : Option (Nat × ByteArray)) : Option (Nat × ByteArray) := if genO x < genO y then y else x
def bst (D : Dev) : Nat → Option (Nat × ByteArray)
  | 0 => none
  | k + 1 => pick (bst D k) (opn (D.read (4 * k) 4) ((4 * k : Nat) : Int))
def newest (D : Dev) : Option (Nat × ByteArray) := bst D 2
theorem bst_zero {D : Dev} : ∀ {k : Nat}, genO (bst D k) = 0 → bst D k = none
  | 0, _ => rfl
  | k + 1, h => by
    show pick (bst D k) _ = none
    change genO (pick (bst D k) _) = 0 at h
    unfold pick at h ⊢
    split at h
    · omega
    · rename_i hc
      rw [if_neg hc]
      exact bst_zero h
def SrS (w : World) (b : Nat) (D : Dev) (wr : World) (bv i : Value) : Prop :=
  ∃ k m : Nat, m = 4 * k ∧ k ≤ 2 ∧ i = .int .i64 (m : Int) ∧ bv = .string (bodyO (bst D k)) ∧ wr.heap[b]? = some (.cells #[.int .i64 (genO (bst D k) : Int), .int .i64 ((bodyO (bst D k)).size : Int)] 235 (0, 0)) ∧ Below b w wr
set_option maxRecDepth 100000 in
theorem sread_nil (w : World) : Calls Try.prog 98 #[.pointer none] w fun e w' => e = .returned (.tuple #[.string ⟨#[]⟩, .int .i64 0, .int .i64 1]) ∧ w = w' := by
  go_enter Try.func98, Try.ntmps98
  go_wp2
  go_ret3
  exact ⟨rfl, rfl⟩
set_option maxHeartbeats 4000000 in
set_option maxRecDepth 100000 in
theorem sread_any {w : World} {g c r cap : Nat} {D : Dev} (h : DV w g c (.slice (some ⟨r, 0, none⟩) 8 cap) D) (hd : Dok D) (hlost : D.lost = false) (hDL : D.now.length = 8) :
    Calls Try.prog 98 #[.pointer (some ⟨g, 0, none⟩)] w fun e w' => e = .returned (.tuple #[.string (bodyO (newest D)), .int .i64 (genO (newest D) : Int), .int .i64 (errO (newest D))]) ∧ Below w.heap.size w w' := by
  have HV := hide h
  have HD := hide hd
  have HL := hide hDL
  have HT := hide hlost
  have HS := hide (show SrS w w.heap.size D (w.alloc (.cells #[.int .i64 0, .int .i64 0] 235)) (.string ⟨#[]⟩) (.int .i64 0) from ⟨0, 0, rfl, by omega, rfl, rfl, obj_new _ _, (Below.refl _ _).alloc (Nat.le_refl _) _⟩)
  clear h hd hDL hlost
  go_enter Try.func98, Try.ntmps98
  go_wp2_with fail
  go_loopw [6, 7] (fun b i wr => SrS w w.heap.size D wr b i) (fun _ i _ => 8 - (intOf i).toNat)
  case atStart => exact HS.out
  case round =>
    obtain ⟨k, m, hm, hk, rfl, rfl, ho, hb⟩ := hrel
    rcases Nat.lt_or_ge k 2 with hk2 | hk2
    · have hr := dread_ok (HV.out.below hb) HD.out HT.out m 4 (by decide) (by omega) (by omega) HL.out
      have hsz := read_size HD.out (a := m) (n := 4) (by have := HL.out; omega)
      have hmi : (m : Int) < 8 := by omega
      have HR := hide hr
      have HB := hide hb
      have HO := hide ho
      have HM := hide hm
      clear hr hb ho hm
      go_wp2_with fail
      refine HR.out.mono ?_
      rintro e w2 ⟨rfl, hb2⟩
      go_wp2_with fail
      obtain ⟨X, hX⟩ : ∃ X, X = opn (D.read m 4) (m : Int) := ⟨_, rfl⟩
      have HSO := hide (sopen_any (D.read m 4) (m : Int) w2 hsz)
      rw [← hX] at HSO
      refine HSO.out.mono ?_
      rintro e w3 ⟨rfl, hb3⟩
      have hB := hide (HB.out.trans ((hb2.mono HB.out.size).trans (hb3.mono (Nat.le_trans HB.out.size hb2.size))))
      have ho3 := obj_below (obj_below HO.out hb2) hb3
      obtain ⟨Y, hY⟩ : ∃ Y, Y = bst D k := ⟨_, rfl⟩
      rw [← hY] at ho3
      have HY := hide hY
      have HX := hide hX
      have hlt := obj_lt ho3
      have z0 := obj_cell ho3 0
      have z1 := obj_cell ho3 1
      have t0 := obj_frozen ho3 0
      have t1 := obj_frozen ho3 1
      simp only [List.getElem?_toArray, List.getElem?_cons_zero, List.getElem?_cons_succ] at z0 z1
      have HO3 := hide ho3
      generalize hg1 : genO X = gx at *
      generalize hg2 : genO Y = gy at *
      generalize hn1 : (bodyO X).size = nx at *
      generalize hn2 : (bodyO Y).size = ny at *
      generalize hb1 : bodyO X = bx at *
      generalize hb4 : bodyO Y = by_ at *
      clear hb2 hb3 ho3 hY hX
      by_cases hgt : gy < gx
      · have hgti : (gy : Int) < (gx : Int) := by omega
        have hbs : bst D (k + 1) = X := by
          show pick (bst D k) (opn (D.read (4 * k) 4) ((4 * k : Nat) : Int)) = X
          rw [← HM.out, ← HX.out, ← HY.out]
          unfold pick
          rw [hg1, hg2, if_pos hgt]
        have HBS := hide hbs
        clear hbs
        go_wp2
        refine ⟨⟨k + 1, m + 4, by have := HM.out; omega, hk2, by rw [Int.natCast_add]; rfl, by rw [HBS.out, hb1], ?_, ?_⟩, by simp only [intOf]; omega⟩
        · rw [HBS.out, hg1, hb1, hn1]
          exact obj_alloc (obj_set (obj_set HO3.out 0 _) 1 _) _
        · exact ((hB.out.setCell (Nat.le_refl _) _).setCell (Nat.le_refl _) _).alloc (by have := hB.out.size; simp; omega) _
      · have hgti : ¬ (gy : Int) < (gx : Int) := by omega
        have hbs : bst D (k + 1) = Y := by
          show pick (bst D k) (opn (D.read (4 * k) 4) ((4 * k : Nat) : Int)) = Y
          rw [← HM.out, ← HX.out, ← HY.out]
          unfold pick
          rw [hg1, hg2, if_neg hgt]
        have HBS := hide hbs
        clear hbs
        go_wp2
        refine ⟨⟨k + 1, m + 4, by have := HM.out; omega, hk2, by rw [Int.natCast_add]; rfl, by rw [HBS.out, HY.out], ?_, ?_⟩, by simp only [intOf]; omega⟩
        · rw [HBS.out, hg2, hb4, hn2]
          exact obj_alloc HO3.out _
        · exact hB.out.alloc hB.out.size _
    · have hke : k = 2 := by omega
      subst hke
      subst hm
      have z0 := obj_cell ho 0
      have z1 := obj_cell ho 1
      simp only [List.getElem?_toArray, List.getElem?_cons_zero, List.getElem?_cons_succ] at z0 z1
      rw [show bst D 2 = newest D from rfl] at z0 z1 ⊢
      have hz := bst_zero (D := D) (k := 2)
      rw [show bst D 2 = newest D from rfl] at hz
      have HB := hide hb
      clear hb ho
      rcases e : newest D with _ | p
      · rw [e] at z0 z1
        have hz0 : (genO (none : Option (Nat × ByteArray)) : Int) = 0 := rfl
        have hz1 : ((bodyO (none : Option (Nat × ByteArray))).size : Int) = 0 := rfl
        rw [hz0] at z0
        rw [hz1] at z1
        have HE := hide e
        clear hz e
        go_wp2
        go_ret3
        rw [HE.out]
        exact ⟨rfl, HB.out⟩
      · have hg : genO (some p) ≠ 0 := fun e2 => by
          rw [e] at hz
          have := hz e2
          cases this
        rw [e] at z0 z1
        have HE := hide e
        have HQ : Hid ((((genO (some p) : Nat) : Int) == 0 && (((bodyO (some p)).size : Nat) : Int) == 0) = false) := hide (by
          have : (((genO (some p) : Nat) : Int) == 0) = false := by simp; omega
          rw [this, Bool.false_and])
        generalize hgp : genO (some p) = gp at *
        generalize (bodyO (some p)).size = np at *
        clear hz e
        go_wp2_with (refine wpList_binop' rfl .eql 235 (.tmp 41) (.tmp 42) 235 rfl rfl rfl (guard235 _ _ _ _ _) (eql235 _ _ _ _ _) ?_; simp only [HQ.out])
        go_quiet (fail)
        go_wp2
        go_ret3
        rw [HE.out, hgp]
        exact ⟨rfl, below_drewN HB.out _⟩
end Go.Proofs.Ytljmaicobafgkaa
