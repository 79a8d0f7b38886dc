/- A join of 1 texts of this claim: Seg9. Conditions: none of their own. -/
import Derived.Test.YtljmaicobafgkaaQ14
section
/- Chapter 31, segment: Seal. -/
namespace Go.Proofs.Ytljmaicobafgkaa
open Go.RowKit

theorem segSeal_nil (w : World) : Calls Try.prog 60 #[.pointer none] w fun e w' => e = .returned (.string ⟨#[]⟩) ∧ Below w.heap.size w w' := by
  go_enter Try.func60, Try.ntmps60
  go_wp2
  go_ret
  exact ⟨rfl, Below.refl _ _⟩
/-- A piece's bytes in the index. -/
def entB (e : Ent) : List UInt8 := ub e.kind :: (num e.inode ++ (num e.block ++ num e.len))
def idxB (l : List Ent) : List UInt8 := num l.length ++ l.flatMap entB
/-- A piece's numbers, as Add lets them in. -/
def EntOk (e : Ent) : Prop := mayE e.kind e.inode e.block ∧ 0 ≤ e.len ∧ e.len ≤ 65536 ∧ 0 ≤ e.pos ∧ e.pos ≤ 65536
theorem entB_len (e : Ent) (h : EntOk e) : (entB e).length ≤ 31 := by
  obtain ⟨⟨_, _, h1, h2, h3, h4⟩, h5, h6, _, _⟩ := h
  have a := num_ten e.inode (by omega)
  have b := num_ten e.block (by omega)
  have c := num_ten e.len (by omega)
  simp [entB]
  omega
theorem idxB_len : ∀ (l : List Ent), (∀ e ∈ l, EntOk e) → (l.flatMap entB).length ≤ 31 * l.length
  | [], _ => by simp
  | e :: l, h => by
    have h1 := entB_len e (h e List.mem_cons_self)
    have h2 := idxB_len l (fun x hx => h x (List.mem_cons_of_mem _ hx))
    rw [List.flatMap_cons, List.length_append, List.length_cons]
    omega
/-- What a row of pieces reads as. -/
theorem ent_cells {w : World} {B : Nat} {v : Value} {l : List Ent} (h : OwE w B v l) {k : Nat} (hk : k < l.length) :
    ∃ g c, v = .slice (some ⟨g, 0, none⟩) l.length c ∧ B ≤ g ∧ g < w.heap.size ∧ l.length ≤ c ∧ ∀ j, j < 5 → w.cell? ⟨g, k * 5 + j, none⟩ = (l[k].cells)[j]? := by
  rcases h.2 with ⟨rfl, h0⟩ | ⟨g, cap, cur, rfl, hb, hh, hn, hm, hc, ht⟩
  · omega
  · refine ⟨g, cap, rfl, hb, obj_lt hh, hn, fun j hj => ?_⟩
    rw [obj_cell hh]
    have e1 : (entVals l)[k * 5 + j]? = (l[k].cells)[j]? := by
      have gen : ∀ (l : List Ent) (k : Nat) (hk : k < l.length), (entVals l)[k * 5 + j]? = (l[k].cells)[j]? := by
        intro l
        induction l with
        | nil => intro k hk; simp at hk
        | cons e l ih =>
          intro k hk
          rcases k with _ | k
          · simp only [entVals, List.flatMap_cons, Nat.zero_mul, Nat.zero_add, List.getElem_cons_zero]
            rw [List.getElem?_append_left (by simp [Ent.cells]; omega)]
          · have := ih k (by simpa using hk)
            simp only [entVals, List.flatMap_cons, List.getElem_cons_succ] at this ⊢
            rw [← this, List.getElem?_append_right (by simp [Ent.cells]; omega)]
            congr 1
            simp [Ent.cells]
            omega
      exact gen l k hk
    rw [← e1, ← ht, List.getElem?_take, if_pos (by omega), Array.getElem?_toList]
theorem conv4 {w : World} {g : Nat} {n : Int} (h : w.heap[g]? = some (.cells #[.int .u8 ((ub n).toNat : Int), .int .u8 ((ub (n / 256)).toNat : Int), .int .u8 ((ub (n / 65536)).toNat : Int), .int .u8 ((ub (n / 16777216)).toNat : Int)] 5 (0, 0))) :
    (convert 77 9 (.slice (some ⟨g, 0, none⟩) 4 4)).run Try.prog w = .ok (.string ⟨(le4 n).toArray⟩) w := by
  refine conv_str (le4 n) rfl (fun ad e j u hu => ?_) (fun h => by simp at h)
  cases e
  rw [add_plain', Nat.zero_add, obj_cell h j, ← hu]
  match j with
  | 0 => rfl
  | 1 => rfl
  | 2 => rfl
  | 3 => rfl
  | j + 4 => simp [byteVals, le4]
def sealA (g n0 ln : Nat) (u : Nat → Value) (A' : Option Addr) (c' : Nat) (ix : List UInt8) (x : Nat → Value) : Act := ⟨#[.pointer (some ⟨g, 0, none⟩), undef, x 22, .pointer (some ⟨n0, 0, none⟩), undef, u 5, .string ⟨ix.toArray⟩, .int .i64 0, .int .i64 ix.length, .pointer (some ⟨g, 0, none⟩), .bool false, .pointer (some ⟨n0, 0, none⟩), .pointer (some ⟨n0, 0, none⟩), .pointer (some ⟨g, 0, none⟩), .pointer (some ⟨g, 0, none⟩), .pointer (some ⟨g, 2, none⟩),
  .slice A' ln c', .int .i64 ln, .tuple #[], .pointer (some ⟨g, 0, none⟩), .pointer (some ⟨g, 0, none⟩), .pointer (some ⟨g, 2, none⟩), .slice A' ln c', .int .i64 ln, .int .i64 ln, .bool false, u 26, u 27, u 28, u 29, u 30, u 31, u 32, u 33, u 34, u 35, u 36, u 37, u 38, u 39, u 40, u 41, u 42, u 43, u 44, .tuple #[.string ⟨ix.toArray⟩, .int .i64 0], .pointer (some ⟨n0, 0, none⟩), .tuple #[.string ⟨ix.toArray⟩, .int .i64 0], .string ⟨ix.toArray⟩, .int .i64 0, .string ⟨ix.toArray⟩, .int .i64 ix.length,
  x 0, x 1, x 2, x 3, x 4, x 5, x 6, x 7, x 8, x 9, x 10, x 11, x 12, x 13, x 14, x 15, x 16, x 17, x 18, x 19, x 20, x 21], []⟩
def sealX (j : Nat) : Value := if j = 22 then .string ⟨#[]⟩ else undef
def sealV (g : Nat) (A : Option Addr) (t : List UInt8) (c : Nat) (ix : List UInt8) (i : Nat) (v : Value) (w : World) : Prop :=
  match i with
  | 0 => v = .pointer (some ⟨g, 0, none⟩)
  | 1 => v = .pointer (some ⟨g, 0, none⟩)
  | 2 => v = .pointer (some ⟨g, 1, none⟩)
  | 3 => v = .slice A t.length c
  | 4 => v = .string ⟨t.toArray⟩
  | 5 => v = .string ⟨ix.toArray⟩
  | 6 => v = .string ((⟨t.toArray⟩ : ByteArray) ++ (⟨ix.toArray⟩ : ByteArray))
  | 7 => v = .int .i64 (ix.length : Int)
  | 8 => v = .int .u8 ((ub (ix.length : Int)).toNat : Int)
  | 9 => v = .int .i64 (ix.length : Int)
  | 10 => v = .int .i64 ((ix.length : Int) / 256)
  | 11 => v = .int .u8 ((ub ((ix.length : Int) / 256)).toNat : Int)
  | 12 => v = .int .i64 (ix.length : Int)
  | 13 => v = .int .i64 ((ix.length : Int) / 65536)
  | 14 => v = .int .u8 ((ub ((ix.length : Int) / 65536)).toNat : Int)
  | 15 => v = .int .i64 (ix.length : Int)
  | 16 => v = .int .i64 ((ix.length : Int) / 16777216)
  | 17 => v = .int .u8 ((ub ((ix.length : Int) / 16777216)).toNat : Int)
  | 18 => ∃ g', v = .slice (some ⟨g', 0, none⟩) 4 4 ∧ w.heap[g']? = some (.cells #[.int .u8 ((ub (ix.length : Int)).toNat : Int), .int .u8 ((ub ((ix.length : Int) / 256)).toNat : Int), .int .u8 ((ub ((ix.length : Int) / 65536)).toNat : Int), .int .u8 ((ub ((ix.length : Int) / 16777216)).toNat : Int)] 5 (0, 0))
  | 19 => v = .string ⟨(le4 (ix.length : Int)).toArray⟩
  | 20 => v = .string ⟨(t ++ (ix ++ le4 (ix.length : Int))).toArray⟩
  | 21 => v = .string (sealS ⟨(t ++ (ix ++ le4 (ix.length : Int))).toArray⟩)
  | _ => v = .string (sealS ⟨(t ++ (ix ++ le4 (ix.length : Int))).toArray⟩)
theorem sealV_on {g : Nat} {A : Option Addr} {t : List UInt8} {c : Nat} {ix : List UInt8} (i : Nat) (v : Value) (w w' : World) (hb : Below w.heap.size w w') (h : sealV g A t c ix i v w) : sealV g A t c ix i v w' := by
  unfold sealV at h ⊢
  split at h <;> try exact h
  obtain ⟨g', hv, hr⟩ := h
  exact ⟨g', hv, obj_below hr hb⟩
def uOf (l : List Value) (j : Nat) : Value := if j = 5 then l.getD 0 undef else l.getD (j - 25) undef
def SealS (w0 : World) (wg : Nat) (n : Nat) (l : List Ent) (w : World) (i : Value) : Prop :=
  ∃ k : Nat, i = .int .i64 k ∧ k ≤ l.length ∧ Wr w wg 65536 (num n ++ (l.take k).flatMap entB) 0 ∧ Below w0.heap.size w0 w ∧ w0.heap.size ≤ wg
set_option maxHeartbeats 4000000 in
set_option maxRecDepth 100000 in
theorem segSeal_ok (g : Nat) (size : Int) (t : List UInt8) (l : List Ent) (lv : Value) (w : World) (h : Sg w g size t l lv) (hl : l.length ≤ 2000) (hok : ∀ e ∈ l, EntOk e) (ht : t.length ≤ 1048576) :
    Calls Try.prog 60 #[.pointer (some ⟨g, 0, none⟩)] w fun e w' => e = .returned (.string (sealS ⟨(t ++ (idxB l ++ le4 (idxB l).length)).toArray⟩)) ∧ Below w.heap.size w w' := by
  obtain ⟨bv, hh, hb, he⟩ := h
  obtain ⟨A, c, rfl⟩ := row_slice hb
  obtain ⟨A', c', rfl⟩ := row_slice he
  have HH := hide hh
  have HB := hide hb
  have HE := hide he
  clear hh hb he
  obtain ⟨ix, hix⟩ : ∃ ix, ix = idxB l := ⟨_, rfl⟩
  rw [← hix]
  have HIX := hide hix
  clear hix
  go_enter Try.func60, Try.ntmps60
  go_wp2_with fail
  refine (newWriter_any 65536 _ (by decide) (by decide)).mono ?_
  rintro e w1 ⟨rfl, hW1, hb1⟩
  have hh1 := obj_below HH.out hb1
  have z2 := obj_cell hh1 2
  simp only [segC, List.getElem?_toArray, List.getElem?_cons_zero, List.getElem?_cons_succ] at z2
  have HW1 := hide hW1
  have HB1 := hide hb1
  have HH1 := hide hh1
  clear hW1 hb1 hh1
  go_wp2_with fail
  refine (wInt_fits _ _ _ _ _ HW1.out (by simp) (by omega) (by omega) (by simp)).mono ?_
  rintro e w2 ⟨rfl, hW2, hf2⟩
  have hB2 : Below w.heap.size w w2 := HB1.out.trans (hf2.below w.heap.size HB1.out.size (fun i hi e => by omega))
  have hh2 := hf2.obj HH1.out (fun e => by have := obj_lt HH.out; omega)
  have z2' := obj_cell hh2 2
  simp only [segC, List.getElem?_toArray, List.getElem?_cons_zero, List.getElem?_cons_succ] at z2'
  have hstart : SealS w w.heap.size l.length l w2 (.int .i64 0) := ⟨0, rfl, Nat.zero_le _, by simpa using hW2, hB2, Nat.le_refl _⟩
  have HS := hide hstart
  clear hW2 hf2 hB2 hh2 hstart z2
  go_wp2_with fail
  go_loopw [24] (fun i wr => SealS w w.heap.size l.length l wr i) (fun i _ => l.length - (intOf i).toNat)
  case atStart => exact HS.out
  case round =>
    obtain ⟨k, rfl, hk, hW, hB, hg⟩ := hrel
    have HWr := hide hW
    have HBr := hide hB
    clear hW hB
    rcases Nat.lt_or_ge k l.length with hkl | hkl
    · obtain ⟨g', c2, hv, hg1, hg2, hc2, hcell⟩ := ent_cells HE.out hkl
      cases hv
      have HC := hide hcell
      have hc0 := (HBr.out.cell (p := ⟨g', k * 5 + 0, none⟩) hg2).trans (hcell 0 (by decide))
      have hc1 := (HBr.out.cell (p := ⟨g', k * 5 + 1, none⟩) hg2).trans (hcell 1 (by decide))
      have hc2' := (HBr.out.cell (p := ⟨g', k * 5 + 2, none⟩) hg2).trans (hcell 2 (by decide))
      have hc3 := (HBr.out.cell (p := ⟨g', k * 5 + 3, none⟩) hg2).trans (hcell 3 (by decide))
      have hc4 := (HBr.out.cell (p := ⟨g', k * 5 + 4, none⟩) hg2).trans (hcell 4 (by decide))
      simp only [Ent.cells, List.getElem?_cons_zero, List.getElem?_cons_succ, Nat.add_zero] at hc0 hc1 hc2' hc3 hc4
      clear hcell
      have hek := hok l[k] (List.getElem_mem hkl)
      have hem := hek.1
      unfold mayE at hem
      have hlen : (num (l.length : Int) ++ (l.take k).flatMap entB).length ≤ 62010 := by
        have h1 := num_ten (l.length : Int) (by omega)
        have h2 := idxB_len (l.take k) (fun e he => hok e (List.mem_of_mem_take he))
        rw [List.length_take] at h2
        rw [List.length_append]
        omega
      have hWr := HWr.out
      clear HWr
      generalize hp : num (l.length : Int) ++ (l.take k).flatMap entB = pre at hWr hlen
      have HWr := hide hWr
      clear hWr
      have hni := num_ten l[k].inode (by omega)
      have hnb := num_ten l[k].block (by omega)
      have hW3 := HWr.out.below ((Below.refl _ _).alloc (Nat.le_refl _) (.cells #[.int .i64 l[k].kind, .int .i64 l[k].inode, .int .i64 l[k].block, .int .i64 l[k].pos, .int .i64 l[k].len] 89))
      have hE3 := obj_new wr (.cells #[.int .i64 l[k].kind, .int .i64 l[k].inode, .int .i64 l[k].block, .int .i64 l[k].pos, .int .i64 l[k].len] 89)
      have hgw : w.heap.size ≠ wr.heap.size := by have := HWr.out.lt; omega
      have HF3 := hide ((Fr.refl (· = w.heap.size) wr).alloc (.cells #[.int .i64 l[k].kind, .int .i64 l[k].inode, .int .i64 l[k].block, .int .i64 l[k].pos, .int .i64 l[k].len] 89))
      have HW3 := hide hW3
      have HE3 := hide hE3
      clear hW3 hE3
      go_wp2_with fail
      refine (wByte_fits _ _ _ _ _ HW3.out (by omega) (by omega) (by omega) (by omega)).mono ?_
      rintro e w3 ⟨rfl, hW4, hf4⟩
      have hE4 := hf4.obj HE3.out (Ne.symm hgw)
      have q1 := obj_cell hE4 1
      simp only [List.getElem?_toArray, List.getElem?_cons_zero, List.getElem?_cons_succ] at q1
      have HW4 := hide hW4
      have HE4 := hide hE4
      have HF4 := hide (HF3.out.trans hf4 (fun _ _ h => h))
      clear hW4 hE4 hf4
      go_wp2_with fail
      refine (wInt_fits _ _ _ _ _ HW4.out (by simp; omega) (by omega) (by omega) (by simp; omega)).mono ?_
      rintro e w4 ⟨rfl, hW5, hf5⟩
      have hE5 := hf5.obj HE4.out (Ne.symm hgw)
      have q2 := obj_cell hE5 2
      simp only [List.getElem?_toArray, List.getElem?_cons_zero, List.getElem?_cons_succ] at q2
      have HW5 := hide hW5
      have HE5 := hide hE5
      have HF5 := hide (HF4.out.trans hf5 (fun _ _ h => h))
      clear hW5 hE5 hf5 q1
      go_wp2_with fail
      refine (wInt_fits _ _ _ _ _ HW5.out (by simp; omega) (by omega) (by omega) (by simp; omega)).mono ?_
      rintro e w5 ⟨rfl, hW6, hf6⟩
      have hE6 := hf6.obj HE5.out (Ne.symm hgw)
      have q3 := obj_cell hE6 4
      simp only [List.getElem?_toArray, List.getElem?_cons_zero, List.getElem?_cons_succ] at q3
      have HW6 := hide hW6
      have HF6 := hide (HF5.out.trans hf6 (fun _ _ h => h))
      clear hW6 hE6 hf6 q2
      go_wp2_with fail
      refine (wInt_fits _ _ _ _ _ HW6.out (by simp; omega) (by have := hek.2; omega) (by have := hek.2; omega) (by simp; omega)).mono ?_
      rintro e w6 ⟨rfl, hW7, hf7⟩
      have hst : SealS w w.heap.size l.length l w6 (.int .i64 ((k + 1 : Nat) : Int)) := by
        refine ⟨k + 1, rfl, hkl, ?_, HBr.out.trans ((HF6.out.trans hf7 (fun _ _ h => h)).below w.heap.size HBr.out.size (fun i hi e => by omega)), hg⟩
        rw [List.take_add_one, List.getElem?_eq_getElem hkl, List.flatMap_append, ← List.append_assoc, hp]
        simpa [entB] using hW7
      have HST := hide hst
      clear hst hW7 hf7 q3
      go_wp2
      go_roundw
      case rel => exact HST.out
      case measure => simp [intOf]; omega
    · obtain rfl : k = l.length := by omega
      rw [List.take_length] at HWr
      have hh3 := obj_below HH.out HBr.out
      have z1 := obj_cell hh3 1
      simp only [segC, List.getElem?_toArray, List.getElem?_cons_zero, List.getElem?_cons_succ] at z1
      have HH3 := hide hh3
      clear hh3
      go_wp2_with fail
      refine (wDone_ok _ _ _ _ HWr.out).mono ?_
      rintro e w3 ⟨rfl, rfl⟩
      have hil : (num (l.length : Int) ++ l.flatMap entB).length ≤ 62010 := by
        have h1 := num_ten (l.length : Int) (by omega)
        have h2 := idxB_len l hok
        rw [List.length_append]
        omega
      have hix := HIX.out
      unfold idxB at hix
      rw [← hix] at hil
      rw [show num (l.length : Int) ++ l.flatMap entB = ix from hix.symm]
      clear hix
      have hu0 : IntKind.u8.wrap (ix.length : Int) = ((ub (ix.length : Int)).toNat : Int) := (ub_val _).symm
      have hu1 : IntKind.u8.wrap ((ix.length : Int) / 256) = ((ub ((ix.length : Int) / 256)).toNat : Int) := (ub_val _).symm
      have hu2 : IntKind.u8.wrap ((ix.length : Int) / 65536) = ((ub ((ix.length : Int) / 65536)).toNat : Int) := (ub_val _).symm
      have hu3 : IntKind.u8.wrap ((ix.length : Int) / 16777216) = ((ub ((ix.length : Int) / 16777216)).toNat : Int) := (ub_val _).symm
      have hsf : (⟨(t ++ (ix ++ le4 (ix.length : Int))).toArray⟩ : ByteArray).size ≤ 4611686018427387904 := by
        rw [str_size]
        simp [le4]
        omega
      have hse : (⟨t.toArray⟩ : ByteArray) ++ (⟨ix.toArray⟩ : ByteArray) ++ (⟨(le4 (ix.length : Int)).toArray⟩ : ByteArray) = ⟨(t ++ (ix ++ le4 (ix.length : Int))).toArray⟩ := by
        rw [str_app, str_app, List.append_assoc]
      have hsz1 : (⟨t.toArray⟩ : ByteArray).size = t.length := rfl
      have hsz2 : (⟨ix.toArray⟩ : ByteArray).size = ix.length := rfl
      have hK3 : Kept w.heap.size g (segC size (.slice A t.length c) (.slice A' l.length c')) 199 w wr := ⟨HBr.out, HBr.out.size, HH3.out⟩
      go_wp2_with fail
      refine wp_region_vals (sealA g w.heap.size l.length (uOf [u5, u26, u27, u28, u29, u30, u31, u32, u33, u34, u35, u36, u37, u38, u39, u40, u41, u42, u43, u44]) A' c' ix) sealX (Kept w.heap.size g (segC size (.slice A t.length c) (.slice A' l.length c')) 199 w) (sealV g A t c ix) rfl (by kernel_rfl) rfl (fun _ _ => Kept.on) sealV_on hK3.drew ?_ ?_ ?_
      · exact ⟨fun x v => rfl, fun x v => rfl, fun x v => rfl, fun x v => rfl, fun x v => rfl, fun x v => rfl, fun x v => rfl, fun x v => rfl, fun x v => rfl, fun x v => rfl, fun x v => rfl, fun x v => rfl, fun x v => rfl, fun x v => rfl, fun x v => rfl, fun x v => rfl, fun x v => rfl, fun x v => rfl, fun x v => rfl, fun x v => rfl, fun x v => rfl, fun x v => rfl, fun x v => rfl, trivial⟩
      · refine ⟨?_, ?_, ?_, ?_, ?_, ?_, ?_, ?_, ?_, ?_, ?_, ?_, ?_, ?_, ?_, ?_, ?_, ?_, ?_, ?_, ?_, ?_, ?_, trivial⟩
        · intro x w' hS hd K hK
          refine ⟨rfl, ?_⟩
          unfold sealA at hK ⊢
          go_wp2
          exact hK (.pointer (some ⟨g, 0, none⟩)) w' (Below.refl _ _) rfl
        · intro x w' hS hd K hK
          have d0 : x 0 = .pointer (some ⟨g, 0, none⟩) := by first | exact hd _ List.mem_cons_self | exact hd _ (List.mem_cons_of_mem _ List.mem_cons_self) | exact hd _ (List.mem_cons_of_mem _ (List.mem_cons_of_mem _ List.mem_cons_self)) | exact hd _ (List.mem_cons_of_mem _ (List.mem_cons_of_mem _ (List.mem_cons_of_mem _ List.mem_cons_self))) | exact hd _ (List.mem_cons_of_mem _ (List.mem_cons_of_mem _ (List.mem_cons_of_mem _ (List.mem_cons_of_mem _ List.mem_cons_self))))
          refine ⟨rfl, ?_⟩
          unfold sealA at hK ⊢
          simp only [d0] at hK ⊢
          go_wp2
          exact hK (.pointer (some ⟨g, 0, none⟩)) w' (Below.refl _ _) rfl
        · intro x w' hS hd K hK
          have d0 : x 1 = .pointer (some ⟨g, 0, none⟩) := by first | exact hd _ List.mem_cons_self | exact hd _ (List.mem_cons_of_mem _ List.mem_cons_self) | exact hd _ (List.mem_cons_of_mem _ (List.mem_cons_of_mem _ List.mem_cons_self)) | exact hd _ (List.mem_cons_of_mem _ (List.mem_cons_of_mem _ (List.mem_cons_of_mem _ List.mem_cons_self))) | exact hd _ (List.mem_cons_of_mem _ (List.mem_cons_of_mem _ (List.mem_cons_of_mem _ (List.mem_cons_of_mem _ List.mem_cons_self))))
          refine ⟨rfl, ?_⟩
          unfold sealA at hK ⊢
          simp only [d0] at hK ⊢
          go_wp2
          exact hK (.pointer (some ⟨g, 1, none⟩)) w' (Below.refl _ _) rfl
        · intro x w' hS hd K hK
          have d0 : x 2 = .pointer (some ⟨g, 1, none⟩) := by first | exact hd _ List.mem_cons_self | exact hd _ (List.mem_cons_of_mem _ List.mem_cons_self) | exact hd _ (List.mem_cons_of_mem _ (List.mem_cons_of_mem _ List.mem_cons_self)) | exact hd _ (List.mem_cons_of_mem _ (List.mem_cons_of_mem _ (List.mem_cons_of_mem _ List.mem_cons_self))) | exact hd _ (List.mem_cons_of_mem _ (List.mem_cons_of_mem _ (List.mem_cons_of_mem _ (List.mem_cons_of_mem _ List.mem_cons_self))))
          refine ⟨rfl, ?_⟩
          unfold sealA at hK ⊢
          simp only [d0] at hK ⊢
          have z := hS.cell 1
          simp only [segC, List.getElem?_toArray, List.getElem?_cons_zero, List.getElem?_cons_succ] at z
          go_wp2
          exact hK (.slice A t.length c) w' (Below.refl _ _) rfl
        · intro x w' hS hd K hK
          have d0 : x 3 = .slice A t.length c := by first | exact hd _ List.mem_cons_self | exact hd _ (List.mem_cons_of_mem _ List.mem_cons_self) | exact hd _ (List.mem_cons_of_mem _ (List.mem_cons_of_mem _ List.mem_cons_self)) | exact hd _ (List.mem_cons_of_mem _ (List.mem_cons_of_mem _ (List.mem_cons_of_mem _ List.mem_cons_self))) | exact hd _ (List.mem_cons_of_mem _ (List.mem_cons_of_mem _ (List.mem_cons_of_mem _ (List.mem_cons_of_mem _ List.mem_cons_self))))
          refine ⟨rfl, ?_⟩
          unfold sealA at hK ⊢
          simp only [d0] at hK ⊢
          have hcv := conv_own (row_below HB.out hS.1)
          go_wp2
          exact hK (.string ⟨t.toArray⟩) w' (Below.refl _ _) rfl
        · intro x w' hS hd K hK
          refine ⟨rfl, ?_⟩
          unfold sealA at hK ⊢
          go_wp2
          exact hK (.string ⟨ix.toArray⟩) w' (Below.refl _ _) rfl
        · intro x w' hS hd K hK
          have d0 : x 4 = .string ⟨t.toArray⟩ := by first | exact hd _ List.mem_cons_self | exact hd _ (List.mem_cons_of_mem _ List.mem_cons_self) | exact hd _ (List.mem_cons_of_mem _ (List.mem_cons_of_mem _ List.mem_cons_self)) | exact hd _ (List.mem_cons_of_mem _ (List.mem_cons_of_mem _ (List.mem_cons_of_mem _ List.mem_cons_self))) | exact hd _ (List.mem_cons_of_mem _ (List.mem_cons_of_mem _ (List.mem_cons_of_mem _ (List.mem_cons_of_mem _ List.mem_cons_self))))
          have d1 : x 5 = .string ⟨ix.toArray⟩ := by first | exact hd _ List.mem_cons_self | exact hd _ (List.mem_cons_of_mem _ List.mem_cons_self) | exact hd _ (List.mem_cons_of_mem _ (List.mem_cons_of_mem _ List.mem_cons_self)) | exact hd _ (List.mem_cons_of_mem _ (List.mem_cons_of_mem _ (List.mem_cons_of_mem _ List.mem_cons_self))) | exact hd _ (List.mem_cons_of_mem _ (List.mem_cons_of_mem _ (List.mem_cons_of_mem _ (List.mem_cons_of_mem _ List.mem_cons_self))))
          refine ⟨rfl, ?_⟩
          unfold sealA at hK ⊢
          simp only [d0, d1] at hK ⊢
          go_wp2
          exact hK (.string ((⟨t.toArray⟩ : ByteArray) ++ (⟨ix.toArray⟩ : ByteArray))) w' (Below.refl _ _) rfl
        · intro x w' hS hd K hK
          refine ⟨rfl, ?_⟩
          unfold sealA at hK ⊢
          go_wp2
          exact hK (.int .i64 (ix.length : Int)) w' (Below.refl _ _) rfl
        · intro x w' hS hd K hK
          have d0 : x 7 = .int .i64 (ix.length : Int) := by first | exact hd _ List.mem_cons_self | exact hd _ (List.mem_cons_of_mem _ List.mem_cons_self) | exact hd _ (List.mem_cons_of_mem _ (List.mem_cons_of_mem _ List.mem_cons_self)) | exact hd _ (List.mem_cons_of_mem _ (List.mem_cons_of_mem _ (List.mem_cons_of_mem _ List.mem_cons_self))) | exact hd _ (List.mem_cons_of_mem _ (List.mem_cons_of_mem _ (List.mem_cons_of_mem _ (List.mem_cons_of_mem _ List.mem_cons_self))))
          refine ⟨rfl, ?_⟩
          unfold sealA at hK ⊢
          simp only [d0] at hK ⊢
          go_wp2
          exact hK (.int .u8 ((ub (ix.length : Int)).toNat : Int)) w' (Below.refl _ _) rfl
        · intro x w' hS hd K hK
          refine ⟨rfl, ?_⟩
          unfold sealA at hK ⊢
          go_wp2
          exact hK (.int .i64 (ix.length : Int)) w' (Below.refl _ _) rfl
        · intro x w' hS hd K hK
          have d0 : x 9 = .int .i64 (ix.length : Int) := by first | exact hd _ List.mem_cons_self | exact hd _ (List.mem_cons_of_mem _ List.mem_cons_self) | exact hd _ (List.mem_cons_of_mem _ (List.mem_cons_of_mem _ List.mem_cons_self)) | exact hd _ (List.mem_cons_of_mem _ (List.mem_cons_of_mem _ (List.mem_cons_of_mem _ List.mem_cons_self))) | exact hd _ (List.mem_cons_of_mem _ (List.mem_cons_of_mem _ (List.mem_cons_of_mem _ (List.mem_cons_of_mem _ List.mem_cons_self))))
          refine ⟨rfl, ?_⟩
          unfold sealA at hK ⊢
          simp only [d0] at hK ⊢
          go_wp2
          exact hK (.int .i64 ((ix.length : Int) / 256)) w' (Below.refl _ _) rfl
        · intro x w' hS hd K hK
          have d0 : x 10 = .int .i64 ((ix.length : Int) / 256) := by first | exact hd _ List.mem_cons_self | exact hd _ (List.mem_cons_of_mem _ List.mem_cons_self) | exact hd _ (List.mem_cons_of_mem _ (List.mem_cons_of_mem _ List.mem_cons_self)) | exact hd _ (List.mem_cons_of_mem _ (List.mem_cons_of_mem _ (List.mem_cons_of_mem _ List.mem_cons_self))) | exact hd _ (List.mem_cons_of_mem _ (List.mem_cons_of_mem _ (List.mem_cons_of_mem _ (List.mem_cons_of_mem _ List.mem_cons_self))))
          refine ⟨rfl, ?_⟩
          unfold sealA at hK ⊢
          simp only [d0] at hK ⊢
          go_wp2
          exact hK (.int .u8 ((ub ((ix.length : Int) / 256)).toNat : Int)) w' (Below.refl _ _) rfl
        · intro x w' hS hd K hK
          refine ⟨rfl, ?_⟩
          unfold sealA at hK ⊢
          go_wp2
          exact hK (.int .i64 (ix.length : Int)) w' (Below.refl _ _) rfl
        · intro x w' hS hd K hK
          have d0 : x 12 = .int .i64 (ix.length : Int) := by first | exact hd _ List.mem_cons_self | exact hd _ (List.mem_cons_of_mem _ List.mem_cons_self) | exact hd _ (List.mem_cons_of_mem _ (List.mem_cons_of_mem _ List.mem_cons_self)) | exact hd _ (List.mem_cons_of_mem _ (List.mem_cons_of_mem _ (List.mem_cons_of_mem _ List.mem_cons_self))) | exact hd _ (List.mem_cons_of_mem _ (List.mem_cons_of_mem _ (List.mem_cons_of_mem _ (List.mem_cons_of_mem _ List.mem_cons_self))))
          refine ⟨rfl, ?_⟩
          unfold sealA at hK ⊢
          simp only [d0] at hK ⊢
          go_wp2
          exact hK (.int .i64 ((ix.length : Int) / 65536)) w' (Below.refl _ _) rfl
        · intro x w' hS hd K hK
          have d0 : x 13 = .int .i64 ((ix.length : Int) / 65536) := by first | exact hd _ List.mem_cons_self | exact hd _ (List.mem_cons_of_mem _ List.mem_cons_self) | exact hd _ (List.mem_cons_of_mem _ (List.mem_cons_of_mem _ List.mem_cons_self)) | exact hd _ (List.mem_cons_of_mem _ (List.mem_cons_of_mem _ (List.mem_cons_of_mem _ List.mem_cons_self))) | exact hd _ (List.mem_cons_of_mem _ (List.mem_cons_of_mem _ (List.mem_cons_of_mem _ (List.mem_cons_of_mem _ List.mem_cons_self))))
          refine ⟨rfl, ?_⟩
          unfold sealA at hK ⊢
          simp only [d0] at hK ⊢
          go_wp2
          exact hK (.int .u8 ((ub ((ix.length : Int) / 65536)).toNat : Int)) w' (Below.refl _ _) rfl
        · intro x w' hS hd K hK
          refine ⟨rfl, ?_⟩
          unfold sealA at hK ⊢
          go_wp2
          exact hK (.int .i64 (ix.length : Int)) w' (Below.refl _ _) rfl
        · intro x w' hS hd K hK
          have d0 : x 15 = .int .i64 (ix.length : Int) := by first | exact hd _ List.mem_cons_self | exact hd _ (List.mem_cons_of_mem _ List.mem_cons_self) | exact hd _ (List.mem_cons_of_mem _ (List.mem_cons_of_mem _ List.mem_cons_self)) | exact hd _ (List.mem_cons_of_mem _ (List.mem_cons_of_mem _ (List.mem_cons_of_mem _ List.mem_cons_self))) | exact hd _ (List.mem_cons_of_mem _ (List.mem_cons_of_mem _ (List.mem_cons_of_mem _ (List.mem_cons_of_mem _ List.mem_cons_self))))
          refine ⟨rfl, ?_⟩
          unfold sealA at hK ⊢
          simp only [d0] at hK ⊢
          go_wp2
          exact hK (.int .i64 ((ix.length : Int) / 16777216)) w' (Below.refl _ _) rfl
        · intro x w' hS hd K hK
          have d0 : x 16 = .int .i64 ((ix.length : Int) / 16777216) := by first | exact hd _ List.mem_cons_self | exact hd _ (List.mem_cons_of_mem _ List.mem_cons_self) | exact hd _ (List.mem_cons_of_mem _ (List.mem_cons_of_mem _ List.mem_cons_self)) | exact hd _ (List.mem_cons_of_mem _ (List.mem_cons_of_mem _ (List.mem_cons_of_mem _ List.mem_cons_self))) | exact hd _ (List.mem_cons_of_mem _ (List.mem_cons_of_mem _ (List.mem_cons_of_mem _ (List.mem_cons_of_mem _ List.mem_cons_self))))
          refine ⟨rfl, ?_⟩
          unfold sealA at hK ⊢
          simp only [d0] at hK ⊢
          go_wp2
          exact hK (.int .u8 ((ub ((ix.length : Int) / 16777216)).toNat : Int)) w' (Below.refl _ _) rfl
        · intro x w' hS hd K hK
          have d0 : x 8 = .int .u8 ((ub (ix.length : Int)).toNat : Int) := by first | exact hd _ List.mem_cons_self | exact hd _ (List.mem_cons_of_mem _ List.mem_cons_self) | exact hd _ (List.mem_cons_of_mem _ (List.mem_cons_of_mem _ List.mem_cons_self)) | exact hd _ (List.mem_cons_of_mem _ (List.mem_cons_of_mem _ (List.mem_cons_of_mem _ List.mem_cons_self))) | exact hd _ (List.mem_cons_of_mem _ (List.mem_cons_of_mem _ (List.mem_cons_of_mem _ (List.mem_cons_of_mem _ List.mem_cons_self))))
          have d1 : x 11 = .int .u8 ((ub ((ix.length : Int) / 256)).toNat : Int) := by first | exact hd _ List.mem_cons_self | exact hd _ (List.mem_cons_of_mem _ List.mem_cons_self) | exact hd _ (List.mem_cons_of_mem _ (List.mem_cons_of_mem _ List.mem_cons_self)) | exact hd _ (List.mem_cons_of_mem _ (List.mem_cons_of_mem _ (List.mem_cons_of_mem _ List.mem_cons_self))) | exact hd _ (List.mem_cons_of_mem _ (List.mem_cons_of_mem _ (List.mem_cons_of_mem _ (List.mem_cons_of_mem _ List.mem_cons_self))))
          have d2 : x 14 = .int .u8 ((ub ((ix.length : Int) / 65536)).toNat : Int) := by first | exact hd _ List.mem_cons_self | exact hd _ (List.mem_cons_of_mem _ List.mem_cons_self) | exact hd _ (List.mem_cons_of_mem _ (List.mem_cons_of_mem _ List.mem_cons_self)) | exact hd _ (List.mem_cons_of_mem _ (List.mem_cons_of_mem _ (List.mem_cons_of_mem _ List.mem_cons_self))) | exact hd _ (List.mem_cons_of_mem _ (List.mem_cons_of_mem _ (List.mem_cons_of_mem _ (List.mem_cons_of_mem _ List.mem_cons_self))))
          have d3 : x 17 = .int .u8 ((ub ((ix.length : Int) / 16777216)).toNat : Int) := by first | exact hd _ List.mem_cons_self | exact hd _ (List.mem_cons_of_mem _ List.mem_cons_self) | exact hd _ (List.mem_cons_of_mem _ (List.mem_cons_of_mem _ List.mem_cons_self)) | exact hd _ (List.mem_cons_of_mem _ (List.mem_cons_of_mem _ (List.mem_cons_of_mem _ List.mem_cons_self))) | exact hd _ (List.mem_cons_of_mem _ (List.mem_cons_of_mem _ (List.mem_cons_of_mem _ (List.mem_cons_of_mem _ List.mem_cons_self))))
          refine ⟨rfl, ?_⟩
          unfold sealA at hK ⊢
          simp only [d0, d1, d2, d3] at hK ⊢
          go_wp2
          exact hK (.slice (some ⟨w'.heap.size, 0, none⟩) 4 4) _ ((Below.refl _ _).alloc (Nat.le_refl _) _) ⟨_, rfl, obj_new _ _⟩
        · intro x w' hS hd K hK
          obtain ⟨g', d0, hr⟩ : sealV g A t c ix 18 (x 18) w' := hd _ List.mem_cons_self
          have hcv := conv4 hr
          refine ⟨rfl, ?_⟩
          unfold sealA at hK ⊢
          simp only [d0] at hK ⊢
          go_wp2
          exact hK (.string ⟨(le4 (ix.length : Int)).toArray⟩) w' (Below.refl _ _) rfl
        · intro x w' hS hd K hK
          have d0 : x 6 = .string ((⟨t.toArray⟩ : ByteArray) ++ (⟨ix.toArray⟩ : ByteArray)) := by first | exact hd _ List.mem_cons_self | exact hd _ (List.mem_cons_of_mem _ List.mem_cons_self) | exact hd _ (List.mem_cons_of_mem _ (List.mem_cons_of_mem _ List.mem_cons_self)) | exact hd _ (List.mem_cons_of_mem _ (List.mem_cons_of_mem _ (List.mem_cons_of_mem _ List.mem_cons_self))) | exact hd _ (List.mem_cons_of_mem _ (List.mem_cons_of_mem _ (List.mem_cons_of_mem _ (List.mem_cons_of_mem _ List.mem_cons_self))))
          have d1 : x 19 = .string ⟨(le4 (ix.length : Int)).toArray⟩ := by first | exact hd _ List.mem_cons_self | exact hd _ (List.mem_cons_of_mem _ List.mem_cons_self) | exact hd _ (List.mem_cons_of_mem _ (List.mem_cons_of_mem _ List.mem_cons_self)) | exact hd _ (List.mem_cons_of_mem _ (List.mem_cons_of_mem _ (List.mem_cons_of_mem _ List.mem_cons_self))) | exact hd _ (List.mem_cons_of_mem _ (List.mem_cons_of_mem _ (List.mem_cons_of_mem _ (List.mem_cons_of_mem _ List.mem_cons_self))))
          refine ⟨rfl, ?_⟩
          unfold sealA at hK ⊢
          simp only [d0, d1] at hK ⊢
          have q1 : ((⟨t.toArray⟩ : ByteArray) ++ (⟨ix.toArray⟩ : ByteArray)).size = t.length + ix.length := by rw [str_app, str_size, List.length_append]
          have q2 : (⟨(le4 (ix.length : Int)).toArray⟩ : ByteArray).size = 4 := rfl
          go_wp2
          exact hK (.string ⟨(t ++ (ix ++ le4 (ix.length : Int))).toArray⟩) w' (Below.refl _ _) rfl
        · intro x w' hS hd K hK
          have d0 : x 20 = .string ⟨(t ++ (ix ++ le4 (ix.length : Int))).toArray⟩ := by first | exact hd _ List.mem_cons_self | exact hd _ (List.mem_cons_of_mem _ List.mem_cons_self) | exact hd _ (List.mem_cons_of_mem _ (List.mem_cons_of_mem _ List.mem_cons_self)) | exact hd _ (List.mem_cons_of_mem _ (List.mem_cons_of_mem _ (List.mem_cons_of_mem _ List.mem_cons_self))) | exact hd _ (List.mem_cons_of_mem _ (List.mem_cons_of_mem _ (List.mem_cons_of_mem _ (List.mem_cons_of_mem _ List.mem_cons_self))))
          refine ⟨rfl, ?_⟩
          unfold sealA at hK ⊢
          simp only [d0] at hK ⊢
          go_wp2_with fail
          refine (seal_any _ _ hsf).mono ?_
          rintro e w2 ⟨rfl, hb2⟩
          exact hK (.string (sealS ⟨(t ++ (ix ++ le4 (ix.length : Int))).toArray⟩)) w2 hb2 rfl
        · intro x w' hS hd K hK
          have d0 : x 21 = .string (sealS ⟨(t ++ (ix ++ le4 (ix.length : Int))).toArray⟩) := by first | exact hd _ List.mem_cons_self | exact hd _ (List.mem_cons_of_mem _ List.mem_cons_self) | exact hd _ (List.mem_cons_of_mem _ (List.mem_cons_of_mem _ List.mem_cons_self)) | exact hd _ (List.mem_cons_of_mem _ (List.mem_cons_of_mem _ (List.mem_cons_of_mem _ List.mem_cons_self))) | exact hd _ (List.mem_cons_of_mem _ (List.mem_cons_of_mem _ (List.mem_cons_of_mem _ (List.mem_cons_of_mem _ List.mem_cons_self))))
          refine ⟨rfl, ?_⟩
          unfold sealA at hK ⊢
          simp only [d0] at hK ⊢
          go_wp2
          exact hK (.string (sealS ⟨(t ++ (ix ++ le4 (ix.length : Int))).toArray⟩)) w' (Below.refl _ _) rfl
      · intro x w' hS hv
        have d0 : x 22 = .string (sealS ⟨(t ++ (ix ++ le4 (ix.length : Int))).toArray⟩) := hv 22 (by decide)
        unfold sealA
        simp only [d0]
        go_wp2
        go_ret
        exact ⟨rfl, hS.1⟩
end Go.Proofs.Ytljmaicobafgkaa
end
