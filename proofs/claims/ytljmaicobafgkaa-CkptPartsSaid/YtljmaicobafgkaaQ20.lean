/- A join of 3 texts of this claim: Ck10, Strs, Ck11. Conditions: none of their own. -/
import Derived.Test.YtljmaicobafgkaaQ18
import Derived.Test.YtljmaicobafgkaaQ19
import Derived.Test.YtljmaicobafgkaaQ16
import Derived.Test.YtljmaicobafgkaaQ17
import Derived.Deep.Slices
import Derived.ChangeSame
import Derived.Lib.SmallJoins
section
/- Chapter 41, ckpt: Open of a part's segment and of ops' segment; the example. -/
namespace Go.Proofs.Ytljmaicobafgkaa
open Go.RowKit

theorem bodies_ops : ∀ (i : Nat) (l : List ByteArray), bodiesOf (opsOf i l) = l
  | _, [] => rfl
  | i, b :: l => by
    show b :: bodiesOf (opsOf (i + 1) l) = _
    rw [bodies_ops]
theorem open_ops (size seq : Int) (l : List ByteArray) (w : World) (hI : SegInv size (dlL seq l)) (h0 : 16 ≤ size) (h1 : size ≤ 65536) (hq : mayQ seq) (hl0 : 1 ≤ l.length) (hl : l.length ≤ 1000)
    (hacc : ∀ k (hk : k < l.length), addOk size (dlL seq (l.take k)) (opPc k l[k])) :
    Calls Try.prog 86 #[.string (segS (dlL seq l))] w fun e w' => ∃ v, e = .returned (.tuple #[.int .i64 seq, .int .i64 (-1), .int .i64 0, v, .int .i64 0]) ∧ OwS w' w.heap.size v l ∧ Below w.heap.size w w' := by
  cases l with
  | nil => simp at hl0
  | cons b rest =>
    have hb : bodiesOf (opPc 0 b :: opsOf 1 rest) = b :: rest := bodies_ops 0 (b :: rest)
    have h := open41 size (-1) 0 (seqPc seq) (opPc 0 b) (opsOf 1 rest) w hI h0 h1 (.inr ⟨show ¬ (3 : Int) = 2 by decide, rfl, rfl⟩) (fun v W h => by
       rw [hb] at h
       exact again_ops seq v (b :: rest) size W hq h h1 hl0 hl hacc)
    rw [hb] at h
    exact h
theorem open_part (seq part many : Int) (body : ByteArray) (w : World) (hsa : segArgs seq part many) (hfit : segFits body) :
    Calls Try.prog 86 #[.string (segS (segTwo seq part many body))] w fun e w' => ∃ v, e = .returned (.tuple #[.int .i64 seq, .int .i64 part, .int .i64 many, v, .int .i64 0]) ∧ OwS w' w.heap.size v [body] ∧ Below w.heap.size w w' := by
  have hI := (seq_inv hsa.1 (size := 65536) (by decide)).add (partPc part many body)
  rw [show addL 65536 [seqPc seq] (partPc part many body) = segTwo seq part many body from if_pos ((segFits_ok hsa).2 hfit)] at hI
  exact open41 65536 part many (seqPc seq) (partPc part many body) [] w hI (by decide) (by decide) (.inl ⟨rfl, rfl, rfl⟩) (fun v W h => again_part seq part many v body W hsa hfit h)
set_option maxRecDepth 100000 in
theorem open41_sum (s : ByteArray) (w : World) (hs : 4 ≤ s.size) (hs2 : s.size ≤ 1073741824) (hn : openL s.data.toList = none) :
    Calls Try.prog 86 #[.string s] w fun e w' => e = .returned (.tuple #[.int .i64 0, .int .i64 0, .int .i64 0, .slice none 0 0, .int .i64 3]) ∧ Below w.heap.size w w' := by
  go_enter Try.func86, Try.ntmps86
  go_wp2_with fail
  refine (segOpen_sum s _ hs hs2 hn).mono ?_
  rintro e w1 ⟨rfl, hb1⟩
  go_wp2
  refine bodyPost_ret (results_tmp5 rfl _ _ _) rfl ⟨rfl, hb1⟩
theorem strArg_new (W : World) (l : List ByteArray) (hl : l.length ≤ maxLen) : StrArg (W.alloc (.cells (l.map .string).toArray 9)) (.slice (some ⟨W.heap.size, 0, none⟩) l.length l.length) l :=
  .inr ⟨_, _, rfl, Nat.le_refl _, hl, fun i hi => by
    rw [add_plain', Nat.zero_add, obj_cell (obj_new _ _)]
    simp [hi]⟩
theorem parts_abc (w : World) : Calls Try.prog 83 #[.string ⟨#[97, 98, 99, 100, 101]⟩, .int .i64 2] w fun e w' => ∃ v, e = .returned (.tuple #[v, .int .i64 0]) ∧ OwS w' w.heap.size v [⟨#[97, 98]⟩, ⟨#[99, 100]⟩, ⟨#[101]⟩] ∧ Below w.heap.size w w' := by
  refine (parts41_any _ 2 w (by decide)).mono ?_
  rintro e w1 ⟨h, hb⟩
  unfold PtOut at h
  rw [if_neg (by decide), if_neg (by decide)] at h
  obtain ⟨v, n, hn, rfl, hO⟩ := h
  have h3 : PartsN 5 2 3 := ⟨by decide, by decide, .inr (by decide)⟩
  have e3 : n = 3 := hn.uniq h3
  subst e3
  exact ⟨v, rfl, hO, hb⟩
def exPQ : List ByteArray := [⟨#[112]⟩, ⟨#[113]⟩]
theorem ex_acc0 : addOk 500 (dlL 8 []) (opPc 0 ⟨#[112]⟩) := by decide
theorem ex_acc1 : addOk 500 (dlL 8 [⟨#[112]⟩]) (opPc 1 ⟨#[113]⟩) := by decide
theorem ex_acc : ∀ k (hk : k < exPQ.length), addOk 500 (dlL 8 (exPQ.take k)) (opPc k exPQ[k])
  | 0, _ => ex_acc0
  | 1, _ => ex_acc1
  | k + 2, hk => absurd hk (by show ¬ k + 2 < 2; omega)
theorem delta_pq (v : Value) (w : World) (h : StrArg w v exPQ) : Calls Try.prog 90 #[.int .i64 8, v, .int .i64 500] w fun e w' => (SegInv 500 (dlL 8 exPQ) ∧ e = .returned (.tuple #[.string (segS (dlL 8 exPQ)), .int .i64 2, .int .i64 0])) ∧ Below w.heap.size w w' := by
  refine (delta_any 8 500 v exPQ w ⟨by decide, by decide⟩ (by decide) h).mono ?_
  rintro e w1 ⟨⟨n, hn, ho⟩, hb⟩
  rw [show szOf 500 = 500 from by decide] at hn ho
  have e2 := dlN_all (Int.le_refl 500) (by decide) ex_acc hn
  have e2' : n = 2 := e2
  subst e2'
  rcases ho with ⟨h0, _⟩ | ⟨_, hI, he⟩
  · omega
  · exact ⟨⟨hI, he⟩, hb⟩
def Awake41 : Prop := ∀ w : World, Calls Try.prog 82 #[] w fun e w' => e = .returned (.bool true) ∧ Below w.heap.size w w'
set_option maxHeartbeats 4000000 in
set_option maxRecDepth 1000000 in
theorem awake41 : Awake41 := by
  intro w
  have hsa : segArgs 7 1 3 := ⟨⟨by decide, by decide⟩, by decide, by decide, by decide, by decide⟩
  have hfit : segFits ⟨#[120]⟩ := by unfold segFits; decide
  go_enter Try.func82, Try.ntmps82
  go_wp2_with fail
  refine (parts_abc _).mono ?_
  rintro e w1 ⟨v1, rfl, hO1, hb1⟩
  have HO1 := hide hO1
  have HB1 := hide hb1
  clear hO1 hb1
  go_wp2_with fail
  refine (seg41_good 7 1 3 ⟨#[120]⟩ _ hsa).mono ?_
  rintro e w2 ⟨he, hb2⟩
  obtain rfl : e = .returned (.tuple #[.string (segS (segTwo 7 1 3 ⟨#[120]⟩)), .int .i64 0]) := by
    rcases he with ⟨_, h⟩ | ⟨h, _⟩
    · exact h
    · exact absurd hfit h
  have HO2 := hide (row_below HO1.out hb2)
  have HB2 := hide (HB1.out.trans (hb2.mono HB1.out.size))
  clear hb2 he
  go_wp2_with fail
  refine (open_part 7 1 3 ⟨#[120]⟩ _ hsa hfit).mono ?_
  rintro e w3 ⟨v3, rfl, hO3, hb3⟩
  have HO3 := hide (row_below HO2.out hb3)
  have HP3 := hide hO3
  have HB3 := hide (HB2.out.trans (hb3.mono HB2.out.size))
  clear hb3 hO3
  go_wp2_with fail
  refine (delta_pq _ _ (strArg_new w3 exPQ (by decide))).mono ?_
  rintro e w4 ⟨⟨hI4, rfl⟩, hb4'⟩
  have hb4 := below_step (Below.refl w3.heap.size w3) (Nat.le_refl _) hb4'
  have HO4 := hide (row_below HO3.out hb4)
  have HP4 := hide (row_below HP3.out hb4)
  have HB4 := hide (HB3.out.trans (hb4.mono HB3.out.size))
  clear hb4 hb4'
  go_wp2_with fail
  refine (open_ops 500 8 exPQ _ hI4 (by decide) (by decide) ⟨by decide, by decide⟩ (by decide) (by decide) ex_acc).mono ?_
  rintro e w5 ⟨v5, rfl, hO5, hb5⟩
  have HO5 := hide (row_below HO4.out hb5)
  have HP5 := hide (row_below HP4.out hb5)
  have HQ5 := hide hO5
  have HB5 := hide (HB4.out.trans (hb5.mono HB4.out.size))
  clear hb5 hO5
  go_wp2_with fail
  refine (open41_sum ⟨#[97, 98, 99, 100]⟩ _ (by decide) (by decide) ex_sum).mono ?_
  rintro e w6 ⟨rfl, hb6⟩
  have HO6 := hide (row_below HO5.out hb6)
  have HP6 := hide (row_below HP5.out hb6)
  have HQ6 := hide (row_below HQ5.out hb6)
  have HB6 := hide (HB5.out.trans (hb6.mono HB5.out.size))
  clear hb6
  go_wp2_with fail
  refine (texts_yes _ _ [⟨#[97, 98]⟩, ⟨#[99, 100]⟩, ⟨#[101]⟩] _ ((OwS.arg HO6.out).below ((Below.refl _ _).alloc (Nat.le_refl _) _)) (strArg_new w6 [⟨#[97, 98]⟩, ⟨#[99, 100]⟩, ⟨#[101]⟩] (by decide))).mono ?_
  rintro e w7 ⟨rfl, hb7'⟩
  have hb7 := below_step (Below.refl w6.heap.size w6) (Nat.le_refl _) hb7'
  have HP7 := hide (row_below HP6.out hb7)
  have HQ7 := hide (row_below HQ6.out hb7)
  have HB7 := hide (HB6.out.trans (hb7.mono HB6.out.size))
  clear hb7 hb7'
  go_wp2_with fail
  refine (texts_yes _ _ [⟨#[120]⟩] _ ((OwS.arg HP7.out).below ((Below.refl _ _).alloc (Nat.le_refl _) _)) (strArg_new w7 [⟨#[120]⟩] (by decide))).mono ?_
  rintro e w8 ⟨rfl, hb8'⟩
  have hb8 := below_step (Below.refl w7.heap.size w7) (Nat.le_refl _) hb8'
  have HQ8 := hide (row_below HQ7.out hb8)
  have HB8 := hide (HB7.out.trans (hb8.mono HB7.out.size))
  clear hb8 hb8'
  go_wp2_with fail
  refine (texts_yes _ _ exPQ _ ((OwS.arg HQ8.out).below ((Below.refl _ _).alloc (Nat.le_refl _) _)) (strArg_new w8 exPQ (by decide))).mono ?_
  rintro e w9 ⟨rfl, hb9'⟩
  have hb9 := below_step (Below.refl w8.heap.size w8) (Nat.le_refl _) hb9'
  have HB9 := hide (HB8.out.trans (hb9.mono HB8.out.size))
  clear hb9 hb9'
  go_wp2
  go_ret
  exact ⟨rfl, HB9.out⟩
end Go.Proofs.Ytljmaicobafgkaa
end
section
/- A slice of strings as a row hands it. -/
namespace Go.Proofs.Ytljmaicobafgkaa
open Go.Joins Go.ChangeShapes Go.WideShapes Go.RowKit Go.Deep

set_option maxRecDepth 100000 in
theorem open_strs {H : Type} {enc : TypeId × Value → H} {w : World} {base : Nat} {spare : Nat → Bool} {held : Bool} {r : Reach} {b0 : Nat} {v : Value} {d : DataW H} {p : List MemPlace}
    (hv : Value.okWide Try.prog w r b0 135 v) (h : DataW.Trod enc Try.prog w base spare held 135 v d p) :
    ∃ l : List ByteArray, StrArg w v l ∧ ∀ x ∈ l, x.size ≤ maxLen := by
  obtain ⟨A, n0, c0, rfl⟩ := okWide_slice Try.underlying135 hv
  obtain ⟨fuel, hf⟩ := h
  rcases open_slice1 Try.underlying135 (by kernel_rfl) hf with ⟨hcs, hx⟩ | ⟨a, len, cap, m, n, V, D, Pl, hcs, hb, hl, hm, hmm, hx, hi⟩
  · simp only [Value.cells, List.cons.injEq, Value.slice.injEq, and_true] at hcs
    exact ⟨[], .inl ⟨by rw [hcs.1, hcs.2.1, hcs.2.2], rfl⟩, fun x hx => by simp at hx⟩
  · simp only [Value.cells, List.cons.injEq, Value.slice.injEq, and_true] at hcs
    obtain ⟨rfl, rfl, rfl⟩ := hcs
    have hlm : n0 ≤ m := by rw [hmm]; split <;> omega
    obtain ⟨l, hll, hq⟩ := list_of (α := ByteArray) (q := fun i x => x.size ≤ maxLen ∧ w.cell? (a.add i) = some (.string x)) n0 (fun i hil => by
      obtain ⟨hc, ht⟩ := hi i (by omega)
      obtain ⟨s, e, _, z⟩ := DataW.trod_string (by kernel_rfl) ht
      simp only [List.cons.injEq, and_true] at e
      rw [e] at hc
      exact ⟨s, z, hc⟩)
    subst hll
    refine ⟨l, .inr ⟨a, c0, rfl, hl, hm, fun i hi => (hq i hi).2⟩, fun x hx => ?_⟩
    obtain ⟨i, hi, rfl⟩ := List.getElem_of_mem hx
    exact (hq i hi).1
end Go.Proofs.Ytljmaicobafgkaa
end
section
/- Chapter 41, ckpt: the walks of CkptParts and CkptBack. -/
namespace Go.Proofs.Ytljmaicobafgkaa
open Go.RowKit

def catL (l : List ByteArray) : ByteArray := l.foldl (· ++ ·) ⟨#[]⟩
theorem catL_snoc (l : List ByteArray) (b : ByteArray) : catL (l ++ [b]) = catL l ++ b := by simp [catL]
theorem catL_up (s : ByteArray) (m : Nat) : ∀ k, catL (partsUp s m k) = upTo s m k
  | 0 => by rw [upTo_zero]; rfl
  | k + 1 => by rw [partsUp_succ, catL_snoc, catL_up s m k, upTo_succ]
theorem partsUp_take (s : ByteArray) (m n k : Nat) (h : k ≤ n) : (partsUp s m n).take k = partsUp s m k := by
  unfold partsUp
  rw [← List.map_take, List.take_range, Nat.min_eq_left h]
theorem upTo_size (s : ByteArray) (m k : Nat) : (upTo s m k).size ≤ s.size := by
  unfold upTo
  rw [str_size, List.length_take, size_list]
  omega
/-- The parts and the error's number. -/
def PtL (s : ByteArray) (most : Int) (l : List ByteArray) (ec : Int) : Prop :=
  if most < 1 ∨ 65536 < most then l = [] ∧ ec = 1 else if 255 * most < s.size then l = [] ∧ ec = 2
  else ec = 0 ∧ ∃ n, PartsN s.size most.toNat n ∧ l = partsUp s most.toNat n
theorem PtOut.l {s : ByteArray} {most : Int} {w : World} {e : Ending} {w' : World} (h : PtOut s most w e w') : ∃ v l ec, PtL s most l ec ∧ e = .returned (.tuple #[v, .int .i64 ec]) ∧ StrArg w' v l := by
  unfold PtOut at h
  unfold PtL
  by_cases h1 : most < 1 ∨ 65536 < most
  · rw [if_pos h1] at h
    simp only [if_pos h1]
    exact ⟨_, [], 1, ⟨rfl, rfl⟩, h, .inl ⟨rfl, rfl⟩⟩
  · rw [if_neg h1] at h
    simp only [if_neg h1]
    by_cases h2 : 255 * most < s.size
    · rw [if_pos h2] at h
      simp only [if_pos h2]
      exact ⟨_, [], 2, ⟨rfl, rfl⟩, h, .inl ⟨rfl, rfl⟩⟩
    · rw [if_neg h2] at h
      simp only [if_neg h2]
      obtain ⟨v, n, hn, he, hO⟩ := h
      exact ⟨v, _, 0, ⟨rfl, n, hn, rfl⟩, he, hO.arg⟩
theorem PtL.uniq {s : ByteArray} {most : Int} {l l' : List ByteArray} {ec ec' : Int} (h : PtL s most l ec) (h' : PtL s most l' ec') : l' = l ∧ ec' = ec := by
  unfold PtL at h h'
  by_cases h1 : most < 1 ∨ 65536 < most
  · rw [if_pos h1] at h h'
    exact ⟨h'.1.trans h.1.symm, h'.2.trans h.2.symm⟩
  · rw [if_neg h1] at h h'
    by_cases h2 : 255 * most < s.size
    · rw [if_pos h2] at h h'
      exact ⟨h'.1.trans h.1.symm, h'.2.trans h.2.symm⟩
    · rw [if_neg h2] at h h'
      obtain ⟨a, n, hn, rfl⟩ := h
      obtain ⟨a', n', hn', rfl⟩ := h'
      exact ⟨by rw [hn.uniq hn'], a'.trans a.symm⟩
theorem PtL.cat {s : ByteArray} {most : Int} {l : List ByteArray} {ec : Int} (h : PtL s most l ec) : l.length ≤ 255 ∧ (ec = 0 → catL l = s) ∧ ∀ k, k ≤ l.length → (catL (l.take k)).size ≤ s.size := by
  unfold PtL at h
  by_cases h1 : most < 1 ∨ 65536 < most
  · rw [if_pos h1] at h
    obtain ⟨rfl, rfl⟩ := h
    exact ⟨by simp, fun h => absurd h (by decide), fun k _ => by rw [List.take_nil]; exact Nat.zero_le _⟩
  · rw [if_neg h1] at h
    by_cases h2 : 255 * most < s.size
    · rw [if_pos h2] at h
      obtain ⟨rfl, rfl⟩ := h
      exact ⟨by simp, fun h => absurd h (by decide), fun k _ => by rw [List.take_nil]; exact Nat.zero_le _⟩
    · rw [if_neg h2] at h
      obtain ⟨rfl, n, hn, rfl⟩ := h
      rw [partsUp_len]
      refine ⟨hn.le (by omega) (by omega), fun _ => ?_, fun k hk => ?_⟩
      · rw [catL_up]
        exact upTo_all s _ n hn.2.1
      · rw [partsUp_take _ _ _ _ hk, catL_up]
        exact upTo_size _ _ _
def CatS (w0 : World) (l : List ByteArray) (w : World) (tv iv : Value) : Prop := ∃ k : Nat, iv = .int .i64 k ∧ k ≤ l.length ∧ tv = .string (catL (l.take k)) ∧ Below w0.heap.size w0 w
set_option maxHeartbeats 4000000 in
set_option maxRecDepth 1000000 in
theorem walk_ckptParts (s : ByteArray) (most : Int) (w : World) (hs : s.size ≤ 140737488351232) (_hw : (Lit.int .i64 most).wf = true) :
    Calls Try.prog 19 #[.string s, .int .i64 most] w fun e w' => e = .returned (.bool true) ∧ Below w.heap.size w w' := by
  rcases Nat.lt_or_ge 131072 s.size with hbig | hbig
  · have hbig' : (131072 : Int) < (s.size : Int) := by omega
    go_enter Try.func19, Try.ntmps19
    go_wp2_with fail
    refine (awake41 _).mono ?_
    rintro e w1 ⟨rfl, hb1⟩
    go_wp2
    go_ret
    exact ⟨rfl, hb1⟩
  · have hbig' : ¬ (131072 : Int) < (s.size : Int) := by omega
    go_enter Try.func19, Try.ntmps19
    go_wp2_with fail
    refine (parts41_any s most _ (by omega)).mono ?_
    rintro e w1 ⟨h1, hb1⟩
    obtain ⟨v1, l, ec, hp1, rfl, hO1⟩ := h1.l
    have HB1 := hide hb1
    have HO1 := hide hO1
    clear hb1 hO1 h1
    go_wp2_with fail
    refine (rparts_any s most _ (by omega)).mono ?_
    rintro e w2 ⟨h2, hb2⟩
    obtain ⟨v2, l', ec', hp2, rfl, hO2⟩ := h2.l
    obtain ⟨rfl, rfl⟩ := hp1.uniq hp2
    obtain ⟨hl255, hcat, hcz⟩ := hp1.cat
    obtain ⟨A, c, hv1⟩ := HO1.out.slice
    have HB2 := hide (HB1.out.trans (hb2.mono HB1.out.size))
    have HO2 := hide hO2
    have HP2 := hide (HO1.out.below hb2)
    subst hv1
    have HCAT := hide hcat
    have HCZ := hide hcz
    clear hb2 hO2 h2 hp1 hp2 hcat hcz HO1
    have HST : Hid (CatS w2 l' w2 (.string ⟨#[]⟩) (.int .i64 0)) := hide ⟨0, rfl, Nat.zero_le _, rfl, Below.refl _ _⟩
    go_wp2_with fail
    go_loopw [9, 10] (fun tv iv wr => CatS w2 l' wr tv iv) (fun _ i _ => l'.length - (intOf i).toNat)
    case atStart => exact HST.out
    case round =>
      obtain ⟨k, rfl, hk, rfl, hb⟩ := hrel
      have HB := hide hb
      clear hb
      rcases Nat.lt_or_ge k l'.length with hkl | hkl
      · obtain ⟨a, cap, hv, hc1, hc2, c3⟩ := (HP2.out.below HB.out).cell hkl
        cases hv
        have h300 : (k : Int) < 300 := by omega
        have hz0 := HCZ.out k hk
        have hz1 := HCZ.out (k + 1) hkl
        have et : catL (l'.take (k + 1)) = catL (l'.take k) ++ l'[k] := by
          rw [List.take_add_one, List.getElem?_eq_getElem hkl]
          exact catL_snoc _ _
        have HST2 : Hid (CatS w2 l' wr (.string (catL (l'.take k) ++ l'[k])) (.int .i64 ((k + 1 : Nat) : Int))) := hide ⟨k + 1, rfl, hkl, by rw [et], HB.out⟩
        rw [et] at hz1
        clear et
        generalize catL (l'.take k) = t at *
        generalize l'[k] = p at *
        have hz2 : t.size + p.size ≤ 131072 := by
          rw [ByteArray.size_append] at hz1
          omega
        clear hz1
        go_wp2
        go_roundw
        case rel => exact HST2.out
        case measure => simp [intOf]; omega
      · obtain rfl : k = l'.length := by omega
        rw [List.take_length]
        go_wp2_with fail
        refine (texts_yes _ _ l' _ (HP2.out.below HB.out) (HO2.out.below HB.out)).mono ?_
        rintro e w3 ⟨rfl, hb3⟩
        have HB3 := hide ((HB2.out.trans (HB.out.mono HB2.out.size)).trans (hb3.mono (Nat.le_trans HB2.out.size HB.out.size)))
        clear hb3
        by_cases h0 : ec' = 0
        · rw [HCAT.out h0]
          subst h0
          go_wp2_with fail
          refine (awake41 _).mono ?_
          rintro e w4 ⟨rfl, hb4⟩
          go_wp2
          go_ret
          exact ⟨rfl, HB3.out.trans (hb4.mono HB3.out.size)⟩
        · have h0' : (ec' == 0) = false := by simp [h0]
          generalize catL l' = t
          go_wp2_with fail
          refine (awake41 _).mono ?_
          rintro e w4 ⟨rfl, hb4⟩
          go_wp2
          go_ret
          exact ⟨rfl, HB3.out.trans (hb4.mono HB3.out.size)⟩
theorem StrArg.first {w : World} {A : Option Addr} {n c : Nat} {l : List ByteArray} (h : StrArg w (.slice A l.length c) l) (h1 : 1 ≤ n) (hn : n ≤ l.length) : StrArg w (.slice A n c) (l.take n) := by
  rcases h with ⟨_, rfl⟩ | ⟨a, cap, e, h1, h2, h3⟩
  · simp at hn; omega
  · cases e
    have hl : (l.take n).length = n := by rw [List.length_take]; omega
    refine .inr ⟨a, c, by rw [hl], by omega, h2, fun i hi => ?_⟩
    rw [hl] at hi
    rw [h3 i (by omega), List.getElem_take]
theorem StrArg.room {w : World} {A : Option Addr} {c : Nat} {l : List ByteArray} (h : StrArg w (.slice A l.length c) l) : l.length ≤ c := by
  rcases h with ⟨e, rfl⟩ | ⟨a, cap, e, h1, h2, h3⟩
  · simp
  · cases e
    exact h1
def boxPart (seq part many : Int) : Array Value := #[.int .i64 seq, .int .i64 part, .int .i64 many]
set_option maxHeartbeats 8000000 in
set_option maxRecDepth 1000000 in
theorem walk_ckptBack (seq part many : Int) (body : ByteArray) (v : Value) (l : List ByteArray) (w : World) (_w0 : (Lit.int .i64 seq).wf = true) (_w1 : (Lit.int .i64 part).wf = true) (_w2 : (Lit.int .i64 many).wf = true)
    (hs : body.size ≤ 140737488351232) (h : StrArg w v l) (hwf : ∀ x ∈ l, x.size ≤ maxLen) :
    Calls Try.prog 21 #[.agg #[.int .i64 seq, .int .i64 part, .int .i64 many], .string body, v] w fun e w' => e = .returned (.bool true) ∧ Below w.heap.size w w' := by
  have hlen : l.length ≤ 9223372036854775807 := Nat.le_trans h.len (by decide)
  obtain ⟨A, c, hv⟩ := h.slice
  have H := hide h
  have HW := hide hwf
  subst hv
  clear h hwf
  have HC0 : Hid ((w.alloc (.cells (boxPart seq part many) 147)).heap[w.heap.size]? = some (.cells (boxPart seq part many) 147 (0, 0))) := hide (obj_new _ _)
  have hbw : Below w.heap.size w (w.alloc (.cells (boxPart seq part many) 147)) := (Below.refl _ _).alloc (Nat.le_refl _) _
  have HBW := hide hbw
  clear hbw
  rcases Nat.lt_or_ge 131072 body.size with hbig | hbig
  · have hbig' : (131072 : Int) < (body.size : Int) := by omega
    go_enter Try.func21, Try.ntmps21
    go_wp2_with fail
    refine (awake41 _).mono ?_
    rintro e w1 ⟨rfl, hb1⟩
    go_wp2
    go_ret
    exact ⟨rfl, HBW.out.trans (hb1.mono (by simp))⟩
  · have hbig' : ¬ (131072 : Int) < (body.size : Int) := by omega
    go_enter Try.func21, Try.ntmps21
    go_wp2_with fail
    refine (few41 _ l _ (H.out.below HBW.out) HW.out).mono ?_
    rintro e w1 ⟨hres, hb1⟩
    have HB1 := hide (HBW.out.trans (hb1.mono (by simp [boxPart])))
    have HC1 := hide (obj_below HC0.out hb1)
    have HA1 := hide ((H.out.below HBW.out).below hb1)
    clear hb1
    rcases hres with rfl | rfl
    · have HBB := HB1
      go_wp2_with fail
      refine (awake41 _).mono ?_
      rintro e wz ⟨rfl, hbz⟩
      go_wp2
      go_ret
      exact ⟨rfl, HBB.out.trans (hbz.mono HBB.out.size)⟩
    · have n0 := obj_cell HC1.out 0
      have n1 := obj_cell HC1.out 1
      have n2 := obj_cell HC1.out 2
      simp only [boxPart, List.getElem?_toArray, List.getElem?_cons_zero, List.getElem?_cons_succ] at n0 n1 n2
      by_cases hsa : segArgs seq part many
      · have hq := hsa.1
        go_wp2_with fail
        refine (seg41_good seq part many body _ hsa).mono ?_
        rintro e w2 ⟨he, hb2⟩
        have HBX2 := hide (HB1.out.trans (hb2.mono HB1.out.size))
        have HC2 := hide (obj_below HC1.out hb2)
        have HA2 := hide (HA1.out.below hb2)
        clear hb2
        rcases he with ⟨hfit, rfl⟩ | ⟨hfit, rfl⟩
        · have HOP := hide (open_part seq part many body w2 hsa hfit)
          generalize segS (segTwo seq part many body) = o at *
          go_wp2_with fail
          refine HOP.out.mono ?_
          rintro e w3 ⟨v3, rfl, hO3, hb3⟩
          have HBX3 := hide (HBX2.out.trans (hb3.mono HBX2.out.size))
          have HC3 := hide (obj_below HC2.out hb3)
          have HA3 := hide (HA2.out.below hb3)
          have HO3 := hide hO3
          clear hb3 hO3 n0 n1 n2
          have n0 := obj_cell HC3.out 0
          have n1 := obj_cell HC3.out 1
          have n2 := obj_cell HC3.out 2
          simp only [boxPart, List.getElem?_toArray, List.getElem?_cons_zero, List.getElem?_cons_succ] at n0 n1 n2
          go_wp2_with fail
          refine (texts_yes _ _ [body] _ ((OwS.arg HO3.out).below ((Below.refl _ _).alloc (Nat.le_refl _) _)) (strArg_new w3 [body] (by show 1 ≤ maxLen; decide))).mono ?_
          rintro e w4 ⟨rfl, hb4⟩
          have hb4' := below_step (Below.refl w3.heap.size w3) (Nat.le_refl _) hb4
          have HBX := hide (HBX3.out.trans (hb4'.mono HBX3.out.size))
          have HC := hide (obj_below HC3.out hb4')
          have HA := hide (HA3.out.below hb4')
          clear hb4 hb4' n0 n1 n2
          have n0 := obj_cell HC.out 0
          have n1 := obj_cell HC.out 1
          have n2 := obj_cell HC.out 2
          simp only [boxPart, List.getElem?_toArray, List.getElem?_cons_zero, List.getElem?_cons_succ] at n0 n1 n2
          go_wp2_with fail
          refine (delta_any seq 1000 _ l _ hq (by decide) HA.out).mono ?_
          rintro e w5 ⟨⟨n, hn, ho⟩, hb5⟩
          rw [show szOf 1000 = 1000 from by decide] at hn ho
          have HBB := hide (HBX.out.trans (hb5.mono HBX.out.size))
          have HA5 := hide (HA.out.below hb5)
          have HC5 := hide (obj_below HC.out hb5)
          clear hb5
          rcases ho with ⟨rfl, rfl⟩ | ⟨h1n, hI, rfl⟩
          · clear hn
            go_wp2_with fail
            refine (awake41 _).mono ?_
            rintro e wz ⟨rfl, hbz⟩
            go_wp2
            go_ret
            exact ⟨rfl, HBB.out.trans (hbz.mono HBB.out.size)⟩
          · obtain ⟨hnl, hn1000, hacc, _⟩ := hn
            have hln : (l.take n).length = n := by rw [List.length_take]; omega
            have hsb := segS_bound hI (by decide) (by decide)
            have hso : ((segS (dlL seq (l.take n))).size : Int) ≤ 1000 := by omega
            have hops := open_ops 1000 seq (l.take n) w5 hI (by decide) (by decide) hq (by omega) (by omega) (fun k hk => by
              rw [hln] at hk
              have h1 := hacc k (by omega) hk
              rw [List.take_take, Nat.min_eq_left (by omega), List.getElem_take]
              exact h1)
            have HT := hide (HA5.out.first h1n hnl)
            have hroom := HA5.out.room
            have HOPS := hide hops
            clear hsb hacc hI hops hln
            generalize segS (dlL seq (l.take n)) = o at *
            go_wp2_with fail
            refine (HOPS.out).mono ?_
            rintro e w6 ⟨v6, rfl, hO6, hb6⟩
            have m0 := obj_cell (obj_below HC5.out hb6) 0
            simp only [boxPart, List.getElem?_toArray, List.getElem?_cons_zero] at m0
            have HBC := hide (HBB.out.trans (hb6.mono HBB.out.size))
            have HT6 := hide (HT.out.below hb6)
            have HO6 := hide hO6
            clear hb6 hO6
            go_wp2_with fail
            refine (texts_yes _ _ (l.take n) _ (OwS.arg HO6.out) HT6.out).mono ?_
            rintro e w7 ⟨rfl, hb7⟩
            have HBB := hide (HBC.out.trans (hb7.mono HBC.out.size))
            clear hb7
            go_wp2_with fail
            refine (awake41 _).mono ?_
            rintro e wz ⟨rfl, hbz⟩
            go_wp2
            go_ret
            exact ⟨rfl, HBB.out.trans (hbz.mono HBB.out.size)⟩
        · have HBX := HBX2
          have HC := HC2
          have HA := HA2
          clear n0 n1 n2
          have n0 := obj_cell HC.out 0
          have n1 := obj_cell HC.out 1
          have n2 := obj_cell HC.out 2
          simp only [boxPart, List.getElem?_toArray, List.getElem?_cons_zero, List.getElem?_cons_succ] at n0 n1 n2
          go_wp2_with fail
          refine (delta_any seq 1000 _ l _ hq (by decide) HA.out).mono ?_
          rintro e w5 ⟨⟨n, hn, ho⟩, hb5⟩
          rw [show szOf 1000 = 1000 from by decide] at hn ho
          have HBB := hide (HBX.out.trans (hb5.mono HBX.out.size))
          have HA5 := hide (HA.out.below hb5)
          have HC5 := hide (obj_below HC.out hb5)
          clear hb5
          rcases ho with ⟨rfl, rfl⟩ | ⟨h1n, hI, rfl⟩
          · clear hn
            go_wp2_with fail
            refine (awake41 _).mono ?_
            rintro e wz ⟨rfl, hbz⟩
            go_wp2
            go_ret
            exact ⟨rfl, HBB.out.trans (hbz.mono HBB.out.size)⟩
          · obtain ⟨hnl, hn1000, hacc, _⟩ := hn
            have hln : (l.take n).length = n := by rw [List.length_take]; omega
            have hsb := segS_bound hI (by decide) (by decide)
            have hso : ((segS (dlL seq (l.take n))).size : Int) ≤ 1000 := by omega
            have hops := open_ops 1000 seq (l.take n) w5 hI (by decide) (by decide) hq (by omega) (by omega) (fun k hk => by
              rw [hln] at hk
              have h1 := hacc k (by omega) hk
              rw [List.take_take, Nat.min_eq_left (by omega), List.getElem_take]
              exact h1)
            have HT := hide (HA5.out.first h1n hnl)
            have hroom := HA5.out.room
            have HOPS := hide hops
            clear hsb hacc hI hops hln
            generalize segS (dlL seq (l.take n)) = o at *
            go_wp2_with fail
            refine (HOPS.out).mono ?_
            rintro e w6 ⟨v6, rfl, hO6, hb6⟩
            have m0 := obj_cell (obj_below HC5.out hb6) 0
            simp only [boxPart, List.getElem?_toArray, List.getElem?_cons_zero] at m0
            have HBC := hide (HBB.out.trans (hb6.mono HBB.out.size))
            have HT6 := hide (HT.out.below hb6)
            have HO6 := hide hO6
            clear hb6 hO6
            go_wp2_with fail
            refine (texts_yes _ _ (l.take n) _ (OwS.arg HO6.out) HT6.out).mono ?_
            rintro e w7 ⟨rfl, hb7⟩
            have HBB := hide (HBC.out.trans (hb7.mono HBC.out.size))
            clear hb7
            go_wp2_with fail
            refine (awake41 _).mono ?_
            rintro e wz ⟨rfl, hbz⟩
            go_wp2
            go_ret
            exact ⟨rfl, HBB.out.trans (hbz.mono HBB.out.size)⟩
      · go_wp2_with fail
        refine (seg41_bad seq part many body _ hsa).mono ?_
        rintro e w2 ⟨rfl, hb2⟩
        have HBX := hide (HB1.out.trans (hb2.mono HB1.out.size))
        have HC := hide (obj_below HC1.out hb2)
        have HA := hide (HA1.out.below hb2)
        clear hb2 n0 n1 n2
        have n0 := obj_cell HC.out 0
        have n1 := obj_cell HC.out 1
        have n2 := obj_cell HC.out 2
        simp only [boxPart, List.getElem?_toArray, List.getElem?_cons_zero, List.getElem?_cons_succ] at n0 n1 n2
        by_cases hq : mayQ seq
        · go_wp2_with fail
          refine (delta_any seq 1000 _ l _ hq (by decide) HA.out).mono ?_
          rintro e w5 ⟨⟨n, hn, ho⟩, hb5⟩
          rw [show szOf 1000 = 1000 from by decide] at hn ho
          have HBB := hide (HBX.out.trans (hb5.mono HBX.out.size))
          have HA5 := hide (HA.out.below hb5)
          have HC5 := hide (obj_below HC.out hb5)
          clear hb5
          rcases ho with ⟨rfl, rfl⟩ | ⟨h1n, hI, rfl⟩
          · clear hn
            go_wp2_with fail
            refine (awake41 _).mono ?_
            rintro e wz ⟨rfl, hbz⟩
            go_wp2
            go_ret
            exact ⟨rfl, HBB.out.trans (hbz.mono HBB.out.size)⟩
          · obtain ⟨hnl, hn1000, hacc, _⟩ := hn
            have hln : (l.take n).length = n := by rw [List.length_take]; omega
            have hsb := segS_bound hI (by decide) (by decide)
            have hso : ((segS (dlL seq (l.take n))).size : Int) ≤ 1000 := by omega
            have hops := open_ops 1000 seq (l.take n) w5 hI (by decide) (by decide) hq (by omega) (by omega) (fun k hk => by
              rw [hln] at hk
              have h1 := hacc k (by omega) hk
              rw [List.take_take, Nat.min_eq_left (by omega), List.getElem_take]
              exact h1)
            have HT := hide (HA5.out.first h1n hnl)
            have hroom := HA5.out.room
            have HOPS := hide hops
            clear hsb hacc hI hops hln
            generalize segS (dlL seq (l.take n)) = o at *
            go_wp2_with fail
            refine (HOPS.out).mono ?_
            rintro e w6 ⟨v6, rfl, hO6, hb6⟩
            have m0 := obj_cell (obj_below HC5.out hb6) 0
            simp only [boxPart, List.getElem?_toArray, List.getElem?_cons_zero] at m0
            have HBC := hide (HBB.out.trans (hb6.mono HBB.out.size))
            have HT6 := hide (HT.out.below hb6)
            have HO6 := hide hO6
            clear hb6 hO6
            go_wp2_with fail
            refine (texts_yes _ _ (l.take n) _ (OwS.arg HO6.out) HT6.out).mono ?_
            rintro e w7 ⟨rfl, hb7⟩
            have HBB := hide (HBC.out.trans (hb7.mono HBC.out.size))
            clear hb7
            go_wp2_with fail
            refine (awake41 _).mono ?_
            rintro e wz ⟨rfl, hbz⟩
            go_wp2
            go_ret
            exact ⟨rfl, HBB.out.trans (hbz.mono HBB.out.size)⟩
        · go_wp2_with fail
          refine (delta_bad seq 1000 _ _ hq).mono ?_
          rintro e w5 ⟨rfl, hb5⟩
          have HBB := hide (HBX.out.trans (hb5.mono HBX.out.size))
          clear hb5
          go_wp2_with fail
          refine (awake41 _).mono ?_
          rintro e wz ⟨rfl, hbz⟩
          go_wp2
          go_ret
          exact ⟨rfl, HBB.out.trans (hbz.mono HBB.out.size)⟩
end Go.Proofs.Ytljmaicobafgkaa
end
