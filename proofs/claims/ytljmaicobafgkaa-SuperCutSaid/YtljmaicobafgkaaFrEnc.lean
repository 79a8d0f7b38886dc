/- The walk of frames.Encode. -/
import Derived.Test.YtljmaicobafgkaaFramesIO
namespace Go.Proofs.Ytljmaicobafgkaa
open Go.RowKit

/-- The fields' bytes, the first k of them. -/
def frPre (kd fr tt id : Int) (b : List UInt8) : Nat → List UInt8
  | 0 => []
  | 1 => [ub kd]
  | 2 => [ub kd] ++ [ub fr]
  | 3 => [ub kd] ++ [ub fr] ++ [ub tt]
  | 4 => [ub kd] ++ [ub fr] ++ [ub tt] ++ num id
  | _ => [ub kd] ++ [ub fr] ++ [ub tt] ++ num id ++ textB b
def frB (kd fr tt id : Int) (b : List UInt8) : List UInt8 := frPre kd fr tt id b 5

def EncS (w0 : World) (mg wg pg : Nat) (kd fr tt id : Int) (b : ByteArray) (rfv : Value) (w : World) (i : Value) : Prop :=
  ∃ k : Nat, i = .int .i64 k ∧ k ≤ 5 ∧ Wr w wg 65536 (frPre kd fr tt id b.data.toList k) 0 ∧
    w.heap[mg]? = some (.cells #[.int .i64 kd, .int .i64 fr, .int .i64 tt, .int .i64 id, .string b] 63 (0, 0)) ∧
    w.heap[pg]? = some (.cells #[fInt ⟨mg, 0, none⟩ 129 133 (.pointer (some ⟨wg, 0, none⟩)) rfv, fInt ⟨mg, 1, none⟩ 129 133 (.pointer (some ⟨wg, 0, none⟩)) rfv, fInt ⟨mg, 2, none⟩ 129 133 (.pointer (some ⟨wg, 0, none⟩)) rfv, fInt ⟨mg, 3, none⟩ 108 112 (.pointer (some ⟨wg, 0, none⟩)) rfv, fStr ⟨mg, 4, none⟩ 168 169 (.pointer (some ⟨wg, 0, none⟩)) rfv] 192 (0, 0)) ∧
    Below w0.heap.size w0 w ∧ w0.heap.size ≤ wg
theorem mw255 (x : Array Value) (w : World) : (method 421 255 (.agg x) "hurdle/frames.write").run Try.prog w = .ok (238, .agg x) w := by kernel_rfl
theorem mw259 (x : Array Value) (w : World) : (method 421 259 (.agg x) "hurdle/frames.write").run Try.prog w = .ok (240, .agg x) w := by kernel_rfl
theorem Wr.ne {w : World} {g k : Nat} {most e : Int} {l : List UInt8} {cs : Array Value} {t : TypeId} {f : Nat × Nat} (h : Wr w g most l e) (h' : w.heap[k]? = some (.cells cs t f)) (ht : t ≠ 243) : k ≠ g := by
  obtain ⟨A, c, hb, _⟩ := h
  exact obj_ne h' hb ht
theorem num_ten (n : Int) (h : 0 ≤ n ∧ n < 9223372036854775807) : (num n).length ≤ 10 := numN_ten _ (zz_lt n (by omega) (by omega))
theorem encS_next {w0 w w' : World} {mg wg pg : Nat} {kd fr tt id : Int} {b : ByteArray} {rfv : Value} (k : Nat) (hk : k < 5)
    (hM : w.heap[mg]? = some (.cells #[.int .i64 kd, .int .i64 fr, .int .i64 tt, .int .i64 id, .string b] 63 (0, 0)))
    (hP : w.heap[pg]? = some (.cells #[fInt ⟨mg, 0, none⟩ 129 133 (.pointer (some ⟨wg, 0, none⟩)) rfv, fInt ⟨mg, 1, none⟩ 129 133 (.pointer (some ⟨wg, 0, none⟩)) rfv, fInt ⟨mg, 2, none⟩ 129 133 (.pointer (some ⟨wg, 0, none⟩)) rfv, fInt ⟨mg, 3, none⟩ 108 112 (.pointer (some ⟨wg, 0, none⟩)) rfv, fStr ⟨mg, 4, none⟩ 168 169 (.pointer (some ⟨wg, 0, none⟩)) rfv] 192 (0, 0)))
    (hB : Below w0.heap.size w0 w) (hg : w0.heap.size ≤ wg) {l : List UInt8} (hW : Wr w wg 65536 l 0) (hf : Fr (· = wg) w w')
    (hW' : Wr w' wg 65536 (frPre kd fr tt id b.data.toList (k + 1)) 0) : EncS w0 mg wg pg kd fr tt id b rfv w' (.int .i64 ((k + 1 : Nat) : Int)) :=
  ⟨k + 1, rfl, by omega, hW', hf.obj hM (hW.ne hM (by decide)), hf.obj hP (hW.ne hP (by decide)), hB.trans (hf.below _ hB.size (fun i hi e => by omega)), hg⟩
set_option maxRecDepth 100000 in
theorem encode_ok (kd fr tt id : Int) (b : ByteArray) (w : World) (hm : msgOk kd fr tt id) (hb : b.size ≤ 4096) :
    Calls Try.prog 44 #[.agg #[.int .i64 kd, .int .i64 fr, .int .i64 tt, .int .i64 id, .string b]] w fun e w' => e = .returned (.tuple #[.string (sealS ⟨(frB kd fr tt id b.data.toList).toArray⟩), .int .i64 0]) ∧ Below w.heap.size w w' := by
  have hchk : chk kd fr tt id b.size = 0 := by unfold chk; rw [if_pos hm, if_neg (by omega)]
  have HC := hide hchk
  clear hchk
  have HM := hide hm
  clear hm
  have hmg := hide (obj_new w (.cells #[.int .i64 kd, .int .i64 fr, .int .i64 tt, .int .i64 id, .string b] 63))
  go_enter Try.func44, Try.ntmps44
  go_wp2_with fail
  refine (check_any kd fr tt id b _ (by omega)).mono ?_
  rintro e w1 ⟨rfl, hb1⟩
  rw [HC.out]
  have HB1 := hide hb1
  have hmg1 := hide (obj_below hmg.out hb1)
  have hs1 := hb1.size
  simp only [World.size_alloc] at hs1
  clear hb1
  go_wp2_with fail
  refine (newWriter_any 65536 _ (by decide) (by decide)).mono ?_
  rintro e w2 ⟨rfl, hW2, hb2⟩
  have HB2 := hide hb2
  have HW2 := hide hW2
  have hs2 := hb2.size
  clear hb2 hW2
  go_wp2_with fail
  refine (parts_any _ _ _ _).mono ?_
  rintro e w3 ⟨q, rfl, hq, hp3, hb3⟩
  have HB3 := hide hb3
  have HP3 := hide hp3
  clear hb3 hp3
  have HQ := hide hq
  clear hq
  go_wp2_with fail
  have hbelow : Below w.heap.size w w3 := (((Below.refl _ _).alloc (Nat.le_refl _) _).trans (HB1.out.mono (by simp))).trans ((HB2.out.mono (by omega)).trans (HB3.out.mono (by have := HB2.out.size; omega)))
  have hW3 := HW2.out.below HB3.out
  have hmg3 := obj_below (obj_below hmg1.out HB2.out) HB3.out
  obtain ⟨rfv, hrf⟩ : ∃ rfv, rfv = Value.pointer none := ⟨_, rfl⟩
  have hP3 := HP3.out
  rw [← hrf] at hP3
  have hstart : EncS w w.heap.size w1.heap.size q kd fr tt id b rfv w3 (.int .i64 0) := ⟨0, rfl, by omega, hW3, hmg3, hP3, hbelow, by omega⟩
  have HS := hide hstart
  clear hstart hbelow hW3 hmg3 hP3 hrf
  go_loopw [7, 19] (fun _ i wr => EncS w w.heap.size w1.heap.size q kd fr tt id b rfv wr i) (fun _ i _ => 5 - (intOf i).toNat)
  case atStart => exact HS.out
  case round =>
    obtain ⟨k, rfl, hk, hW, hM, hP, hB, hg⟩ := hrel
    have p0 := obj_cell hP 0
    have p1 := obj_cell hP 1
    have p2 := obj_cell hP 2
    have p3 := obj_cell hP 3
    have p4 := obj_cell hP 4
    have m0 := obj_cell hM 0
    have m1 := obj_cell hM 1
    have m2 := obj_cell hM 2
    have m3 := obj_cell hM 3
    have m4 := obj_cell hM 4
    simp only [List.getElem?_toArray, List.getElem?_cons_zero, List.getElem?_cons_succ, fInt, fStr] at p0 p1 p2 p3 p4 m0 m1 m2 m3 m4
    have HWr := hide hW
    have HMr := hide hM
    have HPr := hide hP
    have HBr := hide hB
    clear hW hM hP hB
    have mw255 := mw255
    have mw259 := mw259
    rcases k with _ | _ | _ | _ | _ | k
    · go_wp2_with fail
      refine (writeByte_any w.heap.size w1.heap.size 0 _ 65536 _ kd _ HWr.out (by simp [frPre]) m0 (by have := HM.out; unfold msgOk at this; omega) (by have := HM.out; unfold msgOk at this; omega) (by simp [frPre])).mono ?_
      rintro e w4 ⟨rfl, hw4, hf4⟩
      have hst := encS_next 0 (by omega) HMr.out HPr.out HBr.out hg HWr.out hf4 hw4
      have HST := hide hst
      clear hst hw4 hf4
      go_wp2
      go_roundw
      case rel => exact HST.out
      case measure => simp [intOf]
    · go_wp2_with fail
      refine (writeByte_any w.heap.size w1.heap.size 1 _ 65536 _ fr _ HWr.out (by simp [frPre]) m1 (by have := HM.out; unfold msgOk at this; omega) (by have := HM.out; unfold msgOk at this; omega) (by simp [frPre])).mono ?_
      rintro e w4 ⟨rfl, hw4, hf4⟩
      have hst := encS_next 1 (by omega) HMr.out HPr.out HBr.out hg HWr.out hf4 hw4
      have HST := hide hst
      clear hst hw4 hf4
      go_wp2
      go_roundw
      case rel => exact HST.out
      case measure => simp [intOf]
    · go_wp2_with fail
      refine (writeByte_any w.heap.size w1.heap.size 2 _ 65536 _ tt _ HWr.out (by simp [frPre]) m2 (by have := HM.out; unfold msgOk at this; omega) (by have := HM.out; unfold msgOk at this; omega) (by simp [frPre])).mono ?_
      rintro e w4 ⟨rfl, hw4, hf4⟩
      have hst := encS_next 2 (by omega) HMr.out HPr.out HBr.out hg HWr.out hf4 hw4
      have HST := hide hst
      clear hst hw4 hf4
      go_wp2
      go_roundw
      case rel => exact HST.out
      case measure => simp [intOf]
    · go_wp2_with fail
      refine (writeInt_any w.heap.size w1.heap.size 3 _ 65536 _ id _ HWr.out (by simp [frPre]) m3 (by have := HM.out; unfold msgOk at this; omega) (by have := HM.out; unfold msgOk at this; omega) (by simp [frPre])).mono ?_
      rintro e w4 ⟨rfl, hw4, hf4⟩
      have hst := encS_next 3 (by omega) HMr.out HPr.out HBr.out hg HWr.out hf4 hw4
      have HST := hide hst
      clear hst hw4 hf4
      go_wp2
      go_roundw
      case rel => exact HST.out
      case measure => simp [intOf]
    · go_wp2_with fail
      refine (writeText_any w.heap.size w1.heap.size 4 _ 65536 _ b _ HWr.out (by have := num_ten id (by have := HM.out; unfold msgOk at this; omega); simp [frPre]; omega) m4 (by omega) (by have := num_ten id (by have := HM.out; unfold msgOk at this; omega); simp [frPre]; omega)).mono ?_
      rintro e w4 ⟨rfl, hw4, hf4⟩
      have hst := encS_next 4 (by omega) HMr.out HPr.out HBr.out hg HWr.out hf4 hw4
      have HST := hide hst
      clear hst hw4 hf4
      go_wp2
      go_roundw
      case rel => exact HST.out
      case measure => simp [intOf]
    · obtain rfl : k = 0 := by omega
      go_wp2_with fail
      refine (wDone_ok _ _ _ _ HWr.out).mono ?_
      rintro e w4 ⟨rfl, rfl⟩
      go_wp2_with fail
      refine (seal_any _ _ ?_).mono ?_
      · have := num_ten id (by have := HM.out; unfold msgOk at this; omega)
        have h2 := num_ten (b.size : Int) (by omega)
        have h3 := size_list b
        rw [str_size]
        simp [frPre, textB]
        omega
      · rintro e w5 ⟨rfl, hb5⟩
        go_wp2
        go_ret2
        exact ⟨rfl, HBr.out.trans (hb5.mono HBr.out.size)⟩
theorem encode_bad (kd fr tt id : Int) (b : ByteArray) (w : World) (hb : b.size ≤ 9223372036854775807) (hm : chk kd fr tt id b.size ≠ 0) :
    Calls Try.prog 44 #[.agg #[.int .i64 kd, .int .i64 fr, .int .i64 tt, .int .i64 id, .string b]] w fun e w' => e = .returned (.tuple #[.string ⟨#[]⟩, .int .i64 (chk kd fr tt id b.size)]) ∧ Below w.heap.size w w' := by
  obtain ⟨c, hc⟩ : ∃ c, c = chk kd fr tt id b.size := ⟨_, rfl⟩
  rw [← hc] at hm ⊢
  have HC := hide hc
  have hne : (c == 0) = false := by simp [hm]
  have hne2 : (c != 0) = true := by simp [hm]
  clear hc hm
  go_enter Try.func44, Try.ntmps44
  go_wp2_with fail
  refine (check_any kd fr tt id b _ hb).mono ?_
  rintro e w1 ⟨rfl, hb1⟩
  rw [← HC.out]
  have HB1 := hide hb1
  clear hb1
  go_wp2
  go_ret2
  exact ⟨rfl, ((Below.refl _ _).alloc (Nat.le_refl _) _).trans (HB1.out.mono (by simp))⟩
end Go.Proofs.Ytljmaicobafgkaa
