/- A join of 4 texts of this claim: Ck6, Ck7, Seg15, Pcs. Conditions: none of their own. -/
import Derived.Test.YtljmaicobafgkaaQ17
import Derived.Test.YtljmaicobafgkaaQ16
import Derived.Deep.Slices
import Derived.Deep.Fields
import Derived.ChangeSame
import Derived.Lib.SmallJoins
section
/- Chapter 41, ckpt: the walk of Open over what was sealed. -/
namespace Go.Proofs.Ytljmaicobafgkaa
open Go.RowKit

theorem ows_base {w : World} {B B' : Nat} {v : Value} {l : List ByteArray} (h : OwS w B v l) (hB : B' ≤ B) : OwS w B' v l := by
  rcases h.2 with h2 | ⟨g, cap, cur, e1, hb, rest⟩
  · exact ⟨h.1, .inl h2⟩
  · exact ⟨h.1, .inr ⟨g, cap, cur, e1, Nat.le_trans hB hb, rest⟩⟩
def bodiesOf (l : List Pc) : List ByteArray := l.map (·.body)
set_option maxHeartbeats 8000000 in
set_option maxRecDepth 1000000 in
theorem open41 (size part many : Int) (p0 p1 : Pc) (rest : List Pc) (w : World) (hI : SegInv size (p0 :: p1 :: rest)) (h0 : 16 ≤ size) (h1 : size ≤ 65536)
    (hk : p1.kind = 2 ∧ part = p1.block ∧ many = p1.inode ∨ ¬ p1.kind = 2 ∧ part = -1 ∧ many = 0)
    (hag : ∀ (v : Value) (W : World), StrArg W v (bodiesOf (p1 :: rest)) → Calls Try.prog 143 #[.int .i64 p0.block, .int .i64 part, .int .i64 many, v] W fun e w' => e = .returned (.string (segS (p0 :: p1 :: rest))) ∧ Below W.heap.size W w') :
    Calls Try.prog 86 #[.string (segS (p0 :: p1 :: rest))] w fun e w' => ∃ v, e = .returned (.tuple #[.int .i64 p0.block, .int .i64 part, .int .i64 many, v, .int .i64 0]) ∧ OwS w' w.heap.size v (bodiesOf (p1 :: rest)) ∧ Below w.heap.size w w' := by
  obtain ⟨L, hL⟩ : ∃ L, L = p0 :: p1 :: rest := ⟨_, rfl⟩
  have hLn : L.length = rest.length + 2 := by rw [hL]; rfl
  have hB0 : bodiesOf (p1 :: rest) = (L.drop 1).map (·.body) := by rw [hL]; rfl
  have hL0 : ∀ h : 0 < L.length, L[0] = p0 := by subst hL; intro h; rfl
  have hL1 : ∀ h : 1 < L.length, L[1] = p1 := by subst hL; intro h; rfl
  rw [← hL] at hI hag ⊢
  have hss := segS_bound hI h0 h1
  have hbd := hI.bounds h1
  obtain ⟨bs, hbs⟩ : ∃ bs, bs = bodiesOf (p1 :: rest) := ⟨_, rfl⟩
  have hbl : bs.length = L.length - 1 := by rw [hbs, hB0, List.length_map, List.length_drop]
  have hbk : ∀ k (hk : k < bs.length) (hk2 : k + 1 < L.length), bs[k] = L[k + 1].body := by
    subst hbs
    intro k hk hk2
    simp only [hB0, List.getElem_map, List.getElem_drop, Nat.add_comm 1 k]
  rw [← hbs] at hag ⊢
  have HG := hide hag
  have HI := hide hI
  have HBK := hide hbk
  have HK := hide hk
  have HL0 := hide hL0
  have HL1 := hide hL1
  have hel := entsAt_len 0 L
  have HEL := hide hel
  have hsm : (segS L).size ≤ 4611686018427387904 := by omega
  clear hag hI hbk hk hL0 hL1 hB0 hbs hL hss hel
  obtain ⟨r, hr⟩ : ∃ r, r = rest.length := ⟨_, rfl⟩
  rw [← hr] at hLn
  clear hr
  go_enter Try.func86, Try.ntmps86
  go_wp2_with fail
  refine (segOpen_seal size L _ HI.out h0 h1).mono ?_
  rintro e w1 ⟨A, c, rfl, hO, hb1⟩
  rw [hLn] at hO hbl hbd ⊢
  have HO := hide hO
  have HB1 := hide hb1
  obtain ⟨g, c', hv, hg1, hg2, hc, hcell0⟩ := ent_cells (k := 0) hO (by rw [HEL.out, hLn]; omega)
  rw [HEL.out, hLn] at hv hc
  cases hv
  have HLN := hide hLn
  clear hO hb1 hcell0 hLn
  have hn2 : ¬ ((r : Int) + 2) < 2 := by omega
  have hbl' : bs.length = r + 1 := by omega
  have hr50 : r ≤ 2400 := by omega
  have HST : Hid (O4S w1 bs w1 (.slice none 0 0) (.int .i64 0)) := hide ⟨0, rfl, Nat.zero_le _, World.ownsRow_nil _ _ _ _, Below.refl _ _⟩
  clear hbl hbd
  go_wp2_with fail
  go_loopw [9, 32] (fun bv i wr => O4S w1 bs wr bv i) (fun _ i _ => r + 1 - (intOf i).toNat)
  case atStart => exact HST.out
  case round =>
    obtain ⟨k, rfl, hk, hS, hB⟩ := hrel
    obtain ⟨A2, m2, rfl⟩ := row_slice hS
    have hkl : (bs.take k).length = k := by rw [List.length_take]; omega
    rw [hkl] at hS ⊢
    have HS := hide hS
    have HB := hide hB
    clear hS hB
    rcases Nat.lt_or_ge k (r + 1) with hkr | hkr
    · have hkL : k + 1 < L.length := by have := HLN.out; omega
      obtain ⟨g', c2, hv, _, hg3, hc3, hcell⟩ := ent_cells (k := k + 1) (row_below HO.out HB.out) (by rw [HEL.out]; exact hkL)
      rw [HEL.out, HLN.out] at hv
      cases hv
      rw [entsAt_get L 0 (k + 1) hkL, Nat.zero_add, show (k + 1) * 5 = 5 + k * 5 from by omega] at hcell
      obtain ⟨he, hle⟩ := seg_body L (k + 1) hkL
      have HE := hide he
      clear he
      have a0 := hcell 0 (by decide)
      have a1 := hcell 1 (by decide)
      have a2 := hcell 2 (by decide)
      have a3 := hcell 3 (by decide)
      have a4 := hcell 4 (by decide)
      simp only [Ent.cells, Pc.ent, List.getElem?_cons_zero, List.getElem?_cons_succ, Nat.add_zero] at a0 a1 a2 a3 a4
      clear hcell
      have HK := hide (And.intro hkr hk)
      go_wp2_with fail
      refine (get_ok (segS L) L[k + 1].kind L[k + 1].inode L[k + 1].block (pcText (L.take (k + 1))).length L[k + 1].body.size _ hsm hle).mono ?_
      rintro e w5 ⟨rfl, hb5⟩
      rw [HE.out]
      have hB5 : Below w1.heap.size w1 w5 := below_step HB.out HB.out.size hb5
      have hS5 : OwS w5 w1.heap.size (.slice A2 k m2) (bs.take k) := row_below (row_below HS.out ((Below.refl _ _).alloc (Nat.le_refl _) _)) hb5
      obtain ⟨v', w6, hrun, hO6, hf6⟩ := app_sx (w := w5.alloc (.cells #[.string L[k + 1].body] 9)) (row_below hS5 ((Below.refl _ _).alloc (Nat.le_refl _) _)) L[k + 1].body (g' := w5.heap.size) (obj_new _ _) (by rw [hkl]; omega) (by have := hB5.size; simp; omega) 135
      obtain ⟨A6, m6, rfl⟩ := row_slice hO6
      have htk : bs.take (k + 1) = bs.take k ++ [L[k + 1].body] := by
        rw [List.take_add_one, List.getElem?_eq_getElem (by omega), ← HBK.out k (by omega) hkL]
        rfl
      have hl6 : (bs.take k ++ [L[k + 1].body]).length = k + 1 := by rw [List.length_append, hkl]; rfl
      rw [hl6] at hrun hO6
      have HST2 : Hid (O4S w1 bs w6 (.slice A6 (k + 1) m6) (.int .i64 ((k + 1 : Nat) : Int))) := hide ⟨k + 1, rfl, by omega, by rw [htk]; exact hO6, (hB5.alloc hB5.size _).trans (hf6.below _ (by have := hB5.size; simp; omega) (fun j hj h => by
        have := (row_typed hS5 h).1
        omega))⟩
      clear hb5 hB5 hS5 hO6 hf6 htk hl6 a0 a1 a2 a3 a4
      go_wp2_with (at_builtin; refine wpList_append_run rfl (.tmp 42) (.tmp 44) 135 135 rfl rfl rfl hrun ?_)
      go_wp2
      go_roundw
      case rel => exact HST2.out
      case measure => simp [intOf]; omega
    · obtain rfl : k = r + 1 := by omega
      have hP0 := HL0.out (by have := HLN.out; omega)
      have hP1 := HL1.out (by have := HLN.out; omega)
      have htk : bs.take (r + 1) = bs := List.take_of_length_le (by omega)
      obtain ⟨g', c2, hv, _, hg3, hc3, hcell⟩ := ent_cells (k := 0) (row_below HO.out HB.out) (by rw [HEL.out]; have := HLN.out; omega)
      rw [HEL.out, HLN.out] at hv
      cases hv
      obtain ⟨g'', c3, hv, _, _, _, hcell1⟩ := ent_cells (k := 1) (row_below HO.out HB.out) (by rw [HEL.out]; have := HLN.out; omega)
      rw [HEL.out, HLN.out] at hv
      cases hv
      rw [entsAt_get L 0 0 (by have := HLN.out; omega), hP0] at hcell
      rw [entsAt_get L 0 1 (by have := HLN.out; omega), hP1] at hcell1
      have d2 := hcell 2 (by decide)
      have e0 := hcell1 0 (by decide)
      have e1 := hcell1 1 (by decide)
      have e2 := hcell1 2 (by decide)
      simp only [Ent.cells, Pc.ent, List.getElem?_cons_zero, List.getElem?_cons_succ, Nat.zero_mul, Nat.zero_add, Nat.one_mul, Nat.add_zero] at d2 e0 e1 e2
      have hS2 : OwS wr w1.heap.size (.slice A2 (r + 1) m2) bs := htk ▸ HS.out
      have HS2 := hide hS2
      clear hcell hcell1 hP0 hP1 htk hS2
      rcases HK.out with ⟨hk2, hp, hm⟩ | ⟨hk2, hp, hm⟩
      · rw [hk2] at e0
        subst hp hm
        go_wp2_with fail
        go_quiet (skip)
        have hbq := below_drewN (Below.refl wr.heap.size wr) nq
        generalize wr.drewN nq = wq at hbq ⊢
        go_wp2_with fail
        refine (HG.out (.slice A2 (r + 1) m2) wq ((OwS.arg HS2.out).below hbq)).mono ?_
        rintro e w5 ⟨rfl, hb5⟩
        have HBF := hide (((HB1.out.trans (HB.out.mono HB1.out.size)).trans (hbq.mono (Nat.le_trans HB1.out.size HB.out.size))).trans (hb5.mono (Nat.le_trans (Nat.le_trans HB1.out.size HB.out.size) hbq.size)))
        have HSF := hide (row_below (row_below HS2.out hbq) hb5)
        clear hb5 hbq
        generalize segS L = o
        go_wp2
        refine bodyPost_ret (results_tmp5 rfl _ _ _) rfl ?_
        refine ⟨.slice A2 (r + 1) m2, ?_, ?_, ?_⟩
        · rfl
        · exact ows_base (show OwS _ _ _ _ from HSF.out) HB1.out.size
        · exact HBF.out
      · have hk3 : (p1.kind == 2) = false := by simp [hk2]
        subst hp hm
        go_wp2_with fail
        refine (HG.out (.slice A2 (r + 1) m2) wr (OwS.arg HS2.out)).mono ?_
        rintro e w5 ⟨rfl, hb5⟩
        have HBF := hide ((HB1.out.trans (HB.out.mono HB1.out.size)).trans (hb5.mono (Nat.le_trans HB1.out.size HB.out.size)))
        have HSF := hide (row_below HS2.out hb5)
        clear hb5
        generalize segS L = o
        go_wp2
        refine bodyPost_ret (results_tmp5 rfl _ _ _) rfl ?_
        refine ⟨.slice A2 (r + 1) m2, ?_, ?_, ?_⟩
        · rfl
        · exact ows_base (show OwS _ _ _ _ from HSF.out) HB1.out.size
        · exact HBF.out
end Go.Proofs.Ytljmaicobafgkaa
end
section
/- Chapter 41, ckpt: the parts of a text, plain. -/
namespace Go.Proofs.Ytljmaicobafgkaa
open Go.RowKit

/-- Part k of a text. -/
def partAt (s : ByteArray) (m k : Nat) : ByteArray := ⟨((s.data.toList.drop (k * m)).take m).toArray⟩
def partsUp (s : ByteArray) (m n : Nat) : List ByteArray := (List.range n).map (partAt s m)
theorem partsUp_len (s : ByteArray) (m n : Nat) : (partsUp s m n).length = n := by simp [partsUp]
theorem partsUp_succ (s : ByteArray) (m n : Nat) : partsUp s m (n + 1) = partsUp s m n ++ [partAt s m n] := by
  simp [partsUp, List.range_succ]
theorem partsUp_get (s : ByteArray) (m n k : Nat) (h : k < (partsUp s m n).length) : (partsUp s m n)[k] = partAt s m k := by
  simp [partsUp]
/-- n is how many parts a text of z bytes has. -/
def PartsN (z m n : Nat) : Prop := 1 ≤ n ∧ z ≤ n * m ∧ (n = 1 ∨ (n - 1) * m < z)
theorem PartsN.uniq {z m n n' : Nat} (h : PartsN z m n) (h' : PartsN z m n') : n = n' := by
  obtain ⟨a, b, c⟩ := h
  obtain ⟨a', b', c'⟩ := h'
  rcases Nat.lt_trichotomy n n' with h1 | h1 | h1
  · rcases c' with rfl | c'
    · omega
    · have := Nat.mul_le_mul_right m (show n ≤ n' - 1 by omega)
      omega
  · exact h1
  · rcases c with rfl | c
    · omega
    · have := Nat.mul_le_mul_right m (show n' ≤ n - 1 by omega)
      omega
theorem PartsN.le {z m n : Nat} (h : PartsN z m n) (_hm : 1 ≤ m) (hz : z ≤ 255 * m) : n ≤ 255 := by
  obtain ⟨a, b, c⟩ := h
  rcases c with rfl | c
  · omega
  · by_cases hn : n ≤ 255
    · exact hn
    · have := Nat.mul_le_mul_right m (show 255 ≤ n - 1 by omega)
      omega
/-- The parts ahead of k, one behind the other. -/
def upTo (s : ByteArray) (m k : Nat) : ByteArray := ⟨(s.data.toList.take (k * m)).toArray⟩
theorem upTo_zero (s : ByteArray) (m : Nat) : upTo s m 0 = ⟨#[]⟩ := by simp [upTo]
theorem upTo_succ (s : ByteArray) (m k : Nat) : (upTo s m k) ++ partAt s m k = upTo s m (k + 1) := by
  apply ByteArray.ext
  simp only [ByteArray.data_append, upTo, partAt, ← Array.toList_inj, Array.toList_append]
  rw [Nat.succ_mul, List.take_add]
theorem upTo_all (s : ByteArray) (m n : Nat) (h : s.size ≤ n * m) : upTo s m n = s := by
  unfold upTo
  rw [List.take_of_length_le (by rw [Array.length_toList]; exact h)]
end Go.Proofs.Ytljmaicobafgkaa
end
section
/- Chapter 31, segment: the example. -/
namespace Go.Proofs.Ytljmaicobafgkaa
open Go.RowKit

set_option maxHeartbeats 1000000 in
set_option maxRecDepth 100000 in
theorem room_quiet (g : Nat) (size v : Int) (t : List UInt8) (l : List Ent) (lv : Value) (w : World) (h : Sg w g size t l lv) (h0 : 0 ≤ size) (h1 : size ≤ 65536) (ht : t.length ≤ 1048576) (hn : l.length ≤ 90000)
    (hv : size - t.length - (9 + 28 * (l.length + 1)) = v) (hv0 : 0 ≤ v) :
    Calls Try.prog 57 #[.pointer (some ⟨g, 0, none⟩)] w fun e w' => e = .returned (.int .i64 v) ∧ ∃ m, w' = w.drewN m := by
  have hl := left_quiet g size t l lv w h h0 h1 ht hn
  rw [hv] at hl
  clear hv
  go_enter Try.func57, Try.ntmps57
  go_wp2_with fail
  refine hl.mono ?_
  rintro e w1 ⟨rfl, m, rfl⟩
  go_wp2
  go_ret
  exact ⟨rfl, _, rfl⟩
theorem num_single {n : Int} (h0 : 0 ≤ n) (h1 : n < 64) : (num n).length = 1 := by
  unfold num
  rw [numN_small (by unfold zz; rw [if_pos h0]; omega)]
  rfl
def exPc : Pc := ⟨1, 3, 1, ⟨#[97, 98, 99]⟩⟩
def exPc4 : Pc := ⟨4, 0, 0, ⟨#[]⟩⟩
def exZ : List UInt8 := List.replicate 100 0
def exPcZ : Pc := ⟨1, 0, 0, ⟨exZ.toArray⟩⟩
theorem ex_inv : SegInv 100 [exPc] := ⟨fun x hx => by
  simp only [List.mem_singleton] at hx
  subst hx
  decide, .inr (by decide)⟩
theorem ex_sum : openL [97, 98, 99, 100] = none := by decide +kernel
theorem ex_ext : (segS [exPc]).extract 0 (0 + 3) = ⟨#[97, 98, 99]⟩ := by
  rw [extract_str, segS_list]
  rfl
def zeroCells : List Value := List.replicate 100 (.int .u8 0)
theorem make100 (w : World) : (Instr.makeSlice 77 (.int .i64 100) (.int .i64 100)).run Try.prog w = .ok (.slice (some ⟨w.heap.size, 0, none⟩) 100 100) (w.alloc (.cells zeroCells.toArray 5)) := by kernel_rfl
theorem conv100 (w : World) : (convert 77 9 (.slice (some ⟨w.heap.size, 0, none⟩) 100 100)).run Try.prog (w.alloc (.cells zeroCells.toArray 5)) = .ok (.string ⟨exZ.toArray⟩) (w.alloc (.cells zeroCells.toArray 5)) := by
  refine conv_str exZ rfl (fun ad e j u hu => ?_) (fun e => by cases e)
  cases e
  rw [add_plain', Nat.zero_add, obj_cell (obj_new w _)]
  rw [show byteVals exZ = zeroCells from rfl] at hu
  rw [← hu]
  simp
theorem ex_left : leftOf 100 (pcText [exPc]).length (entsAt 0 [exPc]).length < ((⟨exZ.toArray⟩ : ByteArray).size : Int) := by decide
def Awake31 : Prop := ∀ w : World, Calls Try.prog 52 #[] w fun e w' => e = .returned (.bool true) ∧ Below w.heap.size w w'
set_option maxHeartbeats 4000000 in
set_option maxRecDepth 1000000 in
theorem awake31 : Awake31 := by
  intro w
  have hsz : (segS [exPc]).size = 16 := by
    rw [segS_size]
    have h5 : (idxB (entsAt 0 [exPc])).length = 5 := by
      have e1 := num_single (n := 1) (by decide) (by decide)
      have e3 := num_single (n := 3) (by decide) (by decide)
      rw [show idxB (entsAt 0 [exPc]) = num 1 ++ (ub 1 :: (num 3 ++ (num 1 ++ num 3))) from by simp [idxB, entsAt, entB, exPc, Pc.ent]; rfl]
      rw [List.length_append, List.length_cons, List.length_append, List.length_append, e1, e3]
    rw [show (pcText [exPc]).length = 3 from by decide, h5]
  go_enter Try.func52, Try.ntmps52
  go_wp2_with fail
  refine (newSeg_any 100 _).mono ?_
  rintro e w1 ⟨rfl, hs1, hb1⟩
  have HS1 : Hid (SgP w1 w.heap.size 100 [] (.slice none 0 0)) := hide hs1
  have HB1 := hide hb1
  clear hs1 hb1
  go_wp2_with fail
  refine (addP w.heap.size 100 [] (.slice none 0 0) exPc _ HS1.out (SegInv.nil _) (by decide) (by decide)).mono ?_
  rintro e w2 ⟨rfl, lv2, hs2, hf2, _⟩
  have HB2 := hide (HB1.out.trans (HS1.out.low hf2 (Nat.le_refl _)))
  have HS2 : Hid (SgP w2 w.heap.size 100 [exPc] lv2) := hide hs2
  rw [show addE 100 [] exPc = ⟨1, 3, 1, 0, 3⟩ from by rfl, show addC 100 [] exPc = 0 from by rfl]
  clear hs2 hf2
  unfold entV
  go_wp2_with fail
  refine (sealP w.heap.size 100 [exPc] lv2 _ (Sg.below HS2.out ((Below.refl _ _).alloc (Nat.le_refl _) _)) ex_inv (by decide) (by decide)).mono ?_
  rintro e w3 ⟨rfl, hb3⟩
  have HS3 : Hid (SgP w3 w.heap.size 100 [exPc] lv2) := hide ((Sg.below HS2.out ((Below.refl _ _).alloc (Nat.le_refl _) _)).below hb3)
  have HE3 := hide (obj_below (obj_new w2 _) hb3)
  have HB3 := hide (below_step HB2.out HB2.out.size hb3)
  clear hb3
  go_wp2_with fail
  refine (segOpen_seal 100 [exPc] _ ex_inv (by decide) (by decide)).mono ?_
  rintro e w4 ⟨A, c, rfl, hO, hb4⟩
  have HS4 : Hid (SgP w4 w.heap.size 100 [exPc] lv2) := hide (Sg.below HS3.out hb4)
  have HE4 := hide (obj_below HE3.out hb4)
  have HB4 := hide (HB3.out.trans (hb4.mono HB3.out.size))
  have HO4 := hide hO
  obtain ⟨g', c2, hv, hg1, hg2, hc2, hcell⟩ := ent_cells (k := 0) hO (by decide)
  cases hv
  have a0 := hcell 0 (by decide)
  have a1 := hcell 1 (by decide)
  have a2 := hcell 2 (by decide)
  have a3 := hcell 3 (by decide)
  have a4 := hcell 4 (by decide)
  rw [show (entsAt 0 [exPc])[0].cells = [.int .i64 1, .int .i64 3, .int .i64 1, .int .i64 0, .int .i64 3] from rfl] at a0 a1 a2 a3 a4
  simp only [List.getElem?_cons_zero, List.getElem?_cons_succ, Nat.zero_mul, Nat.zero_add] at a0 a1 a2 a3 a4
  rw [show [exPc].length = 1 from rfl]
  rw [show (entsAt 0 [exPc]).length = 1 from rfl] at hc2
  clear hcell hO hb4
  go_wp2_with fail
  refine (get_ok _ 1 3 1 0 3 _ (by rw [hsz]; decide) (by rw [hsz]; decide)).mono ?_
  rintro e w5 ⟨rfl, hb5⟩
  rw [ex_ext]
  have HS5 : Hid (SgP w5 w.heap.size 100 [exPc] lv2) := hide (Sg.below HS4.out hb5)
  have HE5 := hide (obj_below HE4.out hb5)
  have HB5 := hide (HB4.out.trans (hb5.mono HB4.out.size))
  have HO5 := hide (row_below HO4.out hb5)
  clear hb5
  go_wp2_with fail
  refine (segOpen_sum ⟨#[97, 98, 99, 100]⟩ _ (by decide) (by decide) ex_sum).mono ?_
  rintro e w6 ⟨rfl, hb6⟩
  have HS6 : Hid (SgP w6 w.heap.size 100 [exPc] lv2) := hide (Sg.below HS5.out hb6)
  have HE6 := hide (obj_below HE5.out hb6)
  have HB6 := hide (HB5.out.trans (hb6.mono HB5.out.size))
  have HO6 := hide (row_below HO5.out hb6)
  clear hb6
  go_wp2_with fail
  refine (add_arg w.heap.size 100 (pcText [exPc]) (entsAt 0 [exPc]) lv2 4 0 0 ⟨#[]⟩ _ HS6.out (by decide)).mono ?_
  rintro e w7 ⟨rfl, hb7⟩
  unfold entZ
  have HS7 : Hid (SgP w7 w.heap.size 100 [exPc] lv2) := hide (Sg.below HS6.out hb7)
  have HE7 := hide (obj_below HE6.out hb7)
  have HB7 := hide (HB6.out.trans (hb7.mono HB6.out.size))
  have HO7 := hide (row_below HO6.out hb7)
  clear hb7
  have hmk := make100
  have hcv := conv100 (w7.alloc (.cells #[.int .i64 0, .int .i64 0, .int .i64 0, .int .i64 0, .int .i64 0] 89))
  simp only [World.size_alloc] at hcv
  go_wp2_with fail
  refine (add_full w.heap.size 100 (pcText [exPc]) (entsAt 0 [exPc]) lv2 1 0 0 ⟨exZ.toArray⟩ _ (Sg.below HS7.out (((Below.refl _ _).alloc (Nat.le_refl _) _).alloc (by simp) _)) (by decide) (by decide) (by decide) (by decide) (by decide) ex_left).mono ?_
  rintro e w8 ⟨rfl, hb8⟩
  unfold entZ
  have hA7 : Below w7.heap.size w7 w8 := (((Below.refl w7.heap.size w7).alloc (Nat.le_refl _) _).alloc (by simp) _).trans (hb8.mono (by simp only [World.size_alloc]; omega))
  have HS8 : Hid (SgP w8 w.heap.size 100 [exPc] lv2) := hide (Sg.below HS7.out hA7)
  have HE8 := hide (obj_below HE7.out hA7)
  have HB8 := hide (HB7.out.trans (hA7.mono HB7.out.size))
  have HO8 := hide (row_below HO7.out hA7)
  clear hb8 hmk hcv hA7
  have x0 := obj_cell HE8.out 0
  have x1 := obj_cell HE8.out 1
  have x2 := obj_cell HE8.out 2
  have x3 := obj_cell HE8.out 3
  have x4 := obj_cell HE8.out 4
  have xl := obj_lt HE8.out
  simp only [List.getElem?_toArray, List.getElem?_cons_zero, List.getElem?_cons_succ] at x0 x1 x2 x3 x4
  obtain ⟨g'', c3, hv, hg3, hg4, hc3, hcell⟩ := ent_cells (k := 0) HO8.out (by decide)
  cases hv
  have b0 := hcell 0 (by decide)
  have b1 := hcell 1 (by decide)
  have b2 := hcell 2 (by decide)
  have b3 := hcell 3 (by decide)
  have b4 := hcell 4 (by decide)
  rw [show (entsAt 0 [exPc])[0].cells = [.int .i64 1, .int .i64 3, .int .i64 1, .int .i64 0, .int .i64 3] from rfl] at b0 b1 b2 b3 b4
  simp only [List.getElem?_cons_zero, List.getElem?_cons_succ, Nat.zero_mul, Nat.zero_add] at b0 b1 b2 b3 b4
  clear hcell a0 a1 a2 a3 a4
  have c59 : ∀ W : World, Below w8.heap.size w8 W → Calls Try.prog 59 #[.pointer (some ⟨w.heap.size, 0, none⟩)] W fun e w' => e = .returned (.int .i64 3) ∧ w' = W := fun W hW => len_same w.heap.size 100 (pcText [exPc]) (entsAt 0 [exPc]) lv2 W (Sg.below HS8.out hW)
  have c57 : ∀ W : World, Below w8.heap.size w8 W → Calls Try.prog 57 #[.pointer (some ⟨w.heap.size, 0, none⟩)] W fun e w' => e = .returned (.int .i64 32) ∧ ∃ m, w' = W.drewN m := fun W hW => room_quiet w.heap.size 100 32 (pcText [exPc]) (entsAt 0 [exPc]) lv2 W (Sg.below HS8.out hW) (by decide) (by decide) (by decide) (by decide) (by decide) (by decide)
  have c124 : ∀ W : World, Calls Try.prog 124 #[.int .i64 1] W fun e w' => e = .returned (.int .i64 37) ∧ w' = W := fun W => over_same 1 W (by decide) (by decide)
  have C59 := hide c59
  have C57 := hide c57
  have C124 := hide c124
  clear c59 c57 c124
  go_wp2_with fail
  go_quiet (first
    | (go_at_call 59; refine Calls.quiet_of_same (C59.out _ ?_); exact below_drewN ((Below.refl _ _).alloc (Nat.le_refl _) _) _)
    | (go_at_call 57; refine Calls.quiet_of (C57.out _ ?_); exact below_drewN ((Below.refl _ _).alloc (Nat.le_refl _) _) _)
    | (go_at_call 124; refine Calls.quiet_of_same (C124.out _)))
  go_wp2
  go_ret
  exact ⟨rfl, below_drewN (HB8.out.alloc HB8.out.size _) _⟩
end Go.Proofs.Ytljmaicobafgkaa
end
section
/- A slice of pieces as a row hands it. -/
namespace Go.Proofs.Ytljmaicobafgkaa
open Go.Joins Go.ChangeShapes Go.WideShapes Go.RowKit Go.Deep
section
variable {H : Type} {enc : TypeId × Value → H} {P : Program} {w : World} {base : Nat} {spare : Nat → Bool} {held : Bool}
theorem open_slice_fields {t e : TypeId} {fs : Array Field} {fuel : Nat} {cs : List Value} {x : DataW H × List MemPlace} (ht : P.underlying t = some (.slice e)) (he : P.underlying e = some (.struct fs))
    (hone : oneCellFields P fs = true) (hC : P.cellsOf e = fs.size) (h : DataW.trod enc P w base spare held fuel t cs = some x) :
    (cs = [.slice none 0 0] ∧ x = (.nil, [])) ∨
    ∃ (a : Addr) (len cap m : Nat) (D : Nat → DataW H) (Pl : Nat → List MemPlace), cs = [.slice (some a) len cap] ∧ base ≤ a.block ∧ len ≤ cap ∧ cap ≤ maxLen ∧ m = (if spare a.block then cap else len) ∧
      x = (.slice ((List.range len).map D) ((List.range (m - len)).map fun j => D (len + j)), MemPlace.row a (m * fs.size) ++ (List.range m).flatMap Pl) ∧
      ∀ i, i < m → ∃ (ys : List (DataW H × List MemPlace)) (n : Nat), D i = .agg (ys.map (·.1)) ∧ Pl i = ys.flatMap (·.2) ∧ ys.length = fs.size ∧
        ∀ (j : Nat) (f : Field), fs[j]? = some f → ∃ (v : Value) (y : DataW H × List MemPlace), w.cell? (a.add (i * fs.size + j)) = some v ∧ ys[j]? = some y ∧ DataW.trod enc P w base spare held n f.type [v] = some y := by
  rcases open_slice ht h with h0 | ⟨a, len, cap, m, n, D, Pl, hcs, hb, hl, hm, hmm, hx, hi⟩
  · exact .inl h0
  · refine .inr ⟨a, len, cap, m, D, Pl, hcs, hb, hl, hm, hmm, by rw [hC] at hx; exact hx, fun i him => ?_⟩
    obtain ⟨cs', hc, ht'⟩ := hi i him
    rw [hC] at hc
    obtain ⟨ys, n', hn', hy, hlen, hyl, hf⟩ := DataW.trod_struct he ht'
    obtain ⟨_, hcl, hat⟩ := World.cells?_some hc
    simp only [Prod.mk.injEq] at hy
    refine ⟨ys, n', hy.1, hy.2, hyl, fun j f hj => ?_⟩
    obtain ⟨ho, hk⟩ := hone_of hone j f hj
    have hjl : j < fs.size := (Array.getElem?_eq_some_iff.1 hj).1
    have hcell := hat j hjl
    have hv : cs'[j]? = some (cs'[j]'(by omega)) := List.getElem?_eq_getElem (by omega)
    have h1 := hf j f hj
    rw [ho, hk] at h1
    have hone' : (cs'.drop j).take 1 = [cs'[j]'(by omega)] := by
      rw [List.drop_eq_getElem_cons (by omega)]
      rfl
    rw [hone'] at h1
    have hys : ys[j]? = some (ys[j]'(by omega)) := List.getElem?_eq_getElem (by omega)
    refine ⟨_, _, ?_, hys, h1.trans hys⟩
    rw [← Go.Deep.add_add, hcell, hv]
end
/-- What a piece's numbers and its body are at most. -/
def Pc.wf (x : Pc) : Prop := (Lit.int .i64 x.kind).wf = true ∧ (Lit.int .i64 x.inode).wf = true ∧ (Lit.int .i64 x.block).wf = true ∧ x.body.size ≤ maxLen
/-- The argument v reads as the pieces l. -/
def PcArg (w : World) (v : Value) (l : List Pc) : Prop :=
  (v = .slice none 0 0 ∧ l = []) ∨ ∃ (a : Addr) (cap : Nat), v = .slice (some a) l.length cap ∧ l.length ≤ cap ∧ cap ≤ maxLen ∧
    ∀ i (hi : i < l.length), w.cell? (a.add (i * 4 + 0)) = some (.int .i64 l[i].kind) ∧ w.cell? (a.add (i * 4 + 1)) = some (.int .i64 l[i].inode) ∧ w.cell? (a.add (i * 4 + 2)) = some (.int .i64 l[i].block) ∧ w.cell? (a.add (i * 4 + 3)) = some (.string l[i].body)
theorem list_of {α : Type} {q : Nat → α → Prop} : ∀ (n : Nat), (∀ i, i < n → ∃ x, q i x) → ∃ l : List α, l.length = n ∧ ∀ i (hi : i < l.length), q i l[i]
  | 0, _ => ⟨[], rfl, fun i hi => by simp at hi⟩
  | n + 1, h => by
    obtain ⟨l, hl, hq⟩ := list_of n (fun i hi => h i (by omega))
    obtain ⟨x, hx⟩ := h n (by omega)
    refine ⟨l ++ [x], by simp [hl], fun i hi => ?_⟩
    rcases Nat.lt_or_ge i l.length with h1 | h1
    · rw [List.getElem_append_left h1]
      exact hq i h1
    · obtain rfl : i = l.length := by simp at hi; omega
      simp only [List.getElem_concat_length]
      rw [hl]
      exact hx
set_option maxRecDepth 100000 in
theorem open_pcs {H : Type} {enc : TypeId × Value → H} {w : World} {base : Nat} {spare : Nat → Bool} {held : Bool} {r : Reach} {b0 : Nat} {v : Value} {d : DataW H} {p : List MemPlace}
    (hv : Value.okWide Try.prog w r b0 80 v) (h : DataW.Trod enc Try.prog w base spare held 80 v d p) :
    ∃ l : List Pc, PcArg w v l ∧ ∀ x ∈ l, x.wf := by
  obtain ⟨A, n0, c0, rfl⟩ := okWide_slice Try.underlying80 hv
  obtain ⟨fuel, hf⟩ := h
  rcases open_slice_fields Try.underlying80 Try.underlying93 (by kernel_rfl) (by kernel_rfl) hf with ⟨hcs, hx⟩ | ⟨a, len, cap, m, D, Pl, hcs, hb, hl, hm, hmm, hx, hi⟩
  · simp only [Value.cells, List.cons.injEq, Value.slice.injEq, and_true] at hcs
    exact ⟨[], .inl ⟨by rw [hcs.1, hcs.2.1, hcs.2.2], rfl⟩, fun x hx => by simp at hx⟩
  · simp only [Value.cells, List.cons.injEq, Value.slice.injEq, and_true] at hcs
    obtain ⟨rfl, rfl, rfl⟩ := hcs
    have hlm : n0 ≤ m := by rw [hmm]; split <;> omega
    obtain ⟨l, hll, hq⟩ := list_of (α := Pc) (q := fun i x => x.wf ∧ w.cell? (a.add (i * 4 + 0)) = some (.int .i64 x.kind) ∧ w.cell? (a.add (i * 4 + 1)) = some (.int .i64 x.inode) ∧ w.cell? (a.add (i * 4 + 2)) = some (.int .i64 x.block) ∧ w.cell? (a.add (i * 4 + 3)) = some (.string x.body)) n0 (fun i hil => by
      obtain ⟨ys, n, _, _, _, hfs⟩ := hi i (by omega)
      obtain ⟨v0, y0, hc0, _, ht0⟩ := hfs 0 _ rfl
      obtain ⟨v1, y1, hc1, _, ht1⟩ := hfs 1 _ rfl
      obtain ⟨v2, y2, hc2, _, ht2⟩ := hfs 2 _ rfl
      obtain ⟨v3, y3, hc3, _, ht3⟩ := hfs 3 _ rfl
      obtain ⟨k0, e0, _, w0⟩ := DataW.trod_int (k := .i64) (by kernel_rfl) ht0
      obtain ⟨k1, e1, _, w1⟩ := DataW.trod_int (k := .i64) (by kernel_rfl) ht1
      obtain ⟨k2, e2, _, w2⟩ := DataW.trod_int (k := .i64) (by kernel_rfl) ht2
      obtain ⟨s3, e3, _, z3⟩ := DataW.trod_string (by kernel_rfl) ht3
      simp only [List.cons.injEq, and_true] at e0 e1 e2 e3
      subst e0 e1 e2 e3
      exact ⟨⟨k0, k1, k2, s3⟩, ⟨w0, w1, w2, z3⟩, hc0, hc1, hc2, hc3⟩)
    subst hll
    refine ⟨l, .inr ⟨a, c0, rfl, hl, hm, fun i hi => (hq i hi).2⟩, fun x hx => ?_⟩
    obtain ⟨i, hi, rfl⟩ := List.getElem_of_mem hx
    exact (hq i hi).1
theorem PcArg.below {w w' : World} {v : Value} {l : List Pc} (h : PcArg w v l) (hb : Below w.heap.size w w') : PcArg w' v l := by
  rcases h with h | ⟨a, cap, rfl, h1, h2, h3⟩
  · exact .inl h
  · refine .inr ⟨a, cap, rfl, h1, h2, fun i hi => ?_⟩
    obtain ⟨c0, c1, c2, c3⟩ := h3 i hi
    exact ⟨(hb.cell (World.block_lt_of_cell? _ _ c0)).trans c0, (hb.cell (World.block_lt_of_cell? _ _ c1)).trans c1, (hb.cell (World.block_lt_of_cell? _ _ c2)).trans c2, (hb.cell (World.block_lt_of_cell? _ _ c3)).trans c3⟩
theorem PcArg.slice {w : World} {v : Value} {l : List Pc} (h : PcArg w v l) : ∃ A c, v = .slice A l.length c := by
  rcases h with ⟨rfl, rfl⟩ | ⟨a, cap, rfl, _⟩
  · exact ⟨none, 0, rfl⟩
  · exact ⟨some a, cap, rfl⟩
end Go.Proofs.Ytljmaicobafgkaa
end
