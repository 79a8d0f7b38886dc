/- SegmentByte: the walk. -/
import Derived.Test.YtljmaicobafgkaaSeg17
import Derived.Test.YtljmaicobafgkaaFrWalks3
namespace Go.Proofs.Ytljmaicobafgkaa
open Go.RowKit

/-- A byte of a segment turned: which, to what; it is opened no more. -/
theorem seg_turned (l : List Pc) (n y : Int) (hz8 : 8 ≤ (segS l).size) (hzb : (segS l).size ≤ 1073741824) (hy0 : y ≠ 0) (hy2 : 0 ≤ y ∧ y ≤ 255) : ∃ (m : Nat) (hm : m < (segS l).size) (z : UInt8), wrap64 ((IntKind.u64.wrap n).tmod ((segS l).size : Int)) = (m : Int) ∧
    bits .xor .u8 (((segS l).data[m]'hm).toNat : Int) y = (z.toNat : Int) ∧ openL ((segS l).data.toList.set m z) = none := by
  have hu : IntKind.u64.wrap n = n % 18446744073709551616 := rfl
  have hn0 := Int.emod_nonneg n (b := 18446744073709551616) (by decide)
  have hm0 := Int.emod_nonneg (n % 18446744073709551616) (b := ((segS l).size : Int)) (by omega)
  have hm1 := Int.emod_lt_of_pos (n % 18446744073709551616) (b := ((segS l).size : Int)) (by omega)
  obtain ⟨m, hm⟩ : ∃ m : Nat, n % 18446744073709551616 % ((segS l).size : Int) = (m : Int) := ⟨_, (Int.toNat_of_nonneg hm0).symm⟩
  have hlt : m < (segS l).size := by omega
  obtain ⟨y', rfl⟩ : ∃ y' : Nat, y = (y' : Int) := ⟨_, (Int.toNat_of_nonneg hy2.1).symm⟩
  obtain ⟨a, ha⟩ : ∃ a, a = (segS l).data[m]'hlt := ⟨_, rfl⟩
  have ha8 := a.toNat_lt
  have hx : a.toNat ^^^ y' < 2 ^ 8 := Nat.xor_lt_two_pow (by omega) (by omega)
  refine ⟨m, hlt, UInt8.ofNat (a.toNat ^^^ y'), ?_, ?_, ?_⟩
  · rw [hu, Int.tmod_eq_emod_of_nonneg hn0, hm]
    exact wrap64_small (by omega) (by omega)
  · rw [← ha, xor_u8 _ _ (by omega) (by omega), UInt8.toNat_ofNat', Nat.mod_eq_of_lt hx]
  · have hne : (segS l).data.toList[m]'(by rw [← size_list]; exact hlt) ≠ UInt8.ofNat (a.toNat ^^^ y') := by
      rw [Array.getElem_toList, ← ha]
      intro h
      have h2 := congrArg UInt8.toNat h
      rw [UInt8.toNat_ofNat', Nat.mod_eq_of_lt hx] at h2
      exact turned_ne a.toNat y' (by omega) h2.symm
    have e := segS_list l
    have hm2 : m < (segB l ++ le4 (crc (segB l))).length := by
      rw [← e, ← size_list]
      exact hlt
    have := open_turned (segB l) m (UInt8.ofNat (a.toNat ^^^ y')) hm2 (by
      have h2 : (segS l).data.toList[m]'(by rw [← size_list]; exact hlt) = (segB l ++ le4 (crc (segB l)))[m] := by
        simp only [e]
      rw [← h2]
      exact hne)
    rw [e]
    exact this
theorem addL_len (size : Int) (l : List Pc) (x : Pc) : (addL size l x).length ≤ l.length + 1 := by
  unfold addL
  split <;> simp
def AddsS (w0 : World) (g : Nat) (size : Int) (L : List Pc) (w : World) (i : Value) : Prop :=
  ∃ (k : Nat) (l' : List Pc) (lv : Value), i = .int .i64 k ∧ k ≤ L.length ∧ l'.length ≤ k ∧ SgP w g size l' lv ∧ SegInv size l' ∧ Below w0.heap.size w0 w ∧ w0.heap.size ≤ g
set_option maxHeartbeats 4000000 in
set_option maxRecDepth 1000000 in
theorem walk_segmentByte (v : Value) (l : List Pc) (n y : Int) (w : World) (h : PcArg w v l) (hwf : ∀ x ∈ l, x.wf) (_hn : (Lit.int .i64 n).wf = true) (hy : (Lit.int .u8 y).wf = true) :
    Calls Try.prog 13 #[v, .int .i64 n, .int .u8 y] w fun e w' => e = .returned (.bool true) ∧ Below w.heap.size w w' := by
  have hy2 := wf_u8 hy
  have hlen : l.length ≤ 9223372036854775807 := Nat.le_trans h.len (by decide)
  obtain ⟨A, c, hv⟩ := h.slice
  have H := hide h
  have HW := hide hwf
  subst hv
  clear h hwf hy
  go_enter Try.func13, Try.ntmps13
  go_wp2_with fail
  refine (few_any _ l _ H.out HW.out).mono ?_
  rintro e w1 ⟨hres, hb1⟩
  have HB1 := hide hb1
  have hz1 := hb1.size
  clear hb1
  rcases hres with rfl | ⟨rfl, h50, _⟩
  · go_wp2_with fail
    refine (awake31 _).mono ?_
    rintro e w2 ⟨rfl, hb2⟩
    go_wp2
    go_ret
    exact ⟨rfl, HB1.out.trans (hb2.mono hz1)⟩
  · by_cases hy0 : y = 0
    · subst hy0
      go_wp2_with fail
      refine (awake31 _).mono ?_
      rintro e w2 ⟨rfl, hb2⟩
      go_wp2
      go_ret
      exact ⟨rfl, HB1.out.trans (hb2.mono hz1)⟩
    · have hy4 : (y == 0) = false := by simp [hy0]
      go_wp2_with fail
      refine (newSeg_any 2000 _).mono ?_
      rintro e w2 ⟨rfl, hs2, hb2⟩
      have HS2 : Hid (AddsS w w1.heap.size 2000 l w2 (.int .i64 0)) := hide ⟨0, [], _, rfl, Nat.zero_le _, Nat.le_refl _, hs2, SegInv.nil _, HB1.out.trans (hb2.mono hz1), hz1⟩
      clear hs2 hb2
      go_wp2_with fail
      go_loopw [8] (fun i wr => AddsS w w1.heap.size 2000 l wr i) (fun i _ => l.length - (intOf i).toNat)
      case atStart => exact HS2.out
      case round =>
        obtain ⟨k, l', lv, rfl, hk, hlk, hS, hI, hB, hg⟩ := hrel
        have HS := hide hS
        have HI := hide hI
        have HB := hide hB
        clear hS hI hB
        rcases Nat.lt_or_ge k l.length with hkl | hkl
        · obtain ⟨a, cap, hv, hc1, hc2, c0, c1, c2, c3⟩ := (H.out.below HB.out).cells hkl
          cases hv
          go_wp2_with fail
          refine wp_stl 21 (by kernel_rfl) (by kernel_rfl) ?_
          simp only [List.take_succ_cons, List.take_zero, List.drop_succ_cons, List.drop_zero]
          repeat still_step
          refine wpStill_nil ?_
          go_wp2_with fail
          refine (addP w1.heap.size 2000 l' lv l[k] wr.drew HS.out HI.out (by decide) (by decide)).mono ?_
          rintro e w3 ⟨rfl, lv3, hS3, hf3, _⟩
          have hal := addL_len 2000 l' l[k]
          have hlow := SgP.low (w := wr.drew) HS.out hf3 hg
          have hst : AddsS w w1.heap.size 2000 l w3 (.int .i64 ((k + 1 : Nat) : Int)) := ⟨k + 1, _, lv3, rfl, hkl, by omega, hS3, HI.out.add _, HB.out.trans ⟨hlow.os, hlow.tape, hlow.output, hlow.size, hlow.block⟩, hg⟩
          have HST := hide hst
          clear hst hS3 hf3 hlow
          go_wp2
          go_roundw
          case rel => exact HST.out
          case measure => simp [intOf]; omega
        · obtain rfl : k = l.length := by omega
          go_wp2_with fail
          refine (sealP w1.heap.size 2000 l' lv _ HS.out HI.out (by decide) (by omega)).mono ?_
          rintro e w3 ⟨rfl, hb3⟩
          have HB3 := hide (HB.out.trans (hb3.mono HB.out.size))
          have hz3 := HB3.out.size
          have hss := segS_size l'
          have hsb := segS_bound HI.out (by decide) (by decide)
          obtain ⟨m, hm, z, hmod, hz, ho⟩ := seg_turned l' n y (by omega) (by omega) hy0 hy2
          have h8 : 8 ≤ (segS l').size := by omega
          clear hb3 hss
          generalize segS l' = o at hsb h8 m hm hmod hz ho ⊢
          have hs0 : ¬ (o.size : Int) = 0 := by omega
          have hu : IntKind.u64.wrap (o.size : Int) = (o.size : Int) := by
            show (o.size : Int) % 18446744073709551616 = _
            omega
          have hcv := fun W : World => conv_to W o
          have hcl := fun W : World => (buf_new W o).cell (j := m) hm
          have hfz := fun W : World => (buf_new W o).thawed (j := m) hm
          have hbk : ∀ W : World, (convert 77 9 (.slice (some ⟨W.heap.size, 0, none⟩) o.size (grownCap W o.size 0 5))).run Try.prog ((Lib.bytesWorld W 5 o).setCell ⟨W.heap.size, m, none⟩ (.int .u8 (z.toNat : Int))) = .ok (.string ⟨(o.data.toList.set m z).toArray⟩) ((Lib.bytesWorld W 5 o).setCell ⟨W.heap.size, m, none⟩ (.int .u8 (z.toNat : Int))) := fun W => by
            have := ((buf_new W o).set (i := m) z).conv (grownCap W o.size 0 5)
            rw [List.length_set, ← size_list] at this
            exact this
          have hsz : (⟨(o.data.toList.set m z).toArray⟩ : ByteArray).size = o.size := by rw [str_size, List.length_set, ← size_list]
          have HO := hide ho
          have HSZ := hide hsz
          clear ho hsz
          go_wp2_with fail
          refine (segOpen_sum ⟨(o.data.toList.set m z).toArray⟩ _ (by rw [HSZ.out]; omega) (by rw [HSZ.out]; omega) HO.out).mono ?_
          rintro e w4 ⟨rfl, hb4⟩
          have HB4 := hide (buf_step HB3.out hz3 hb4)
          have hz4 := HB4.out.size
          clear hb4
          go_wp2_with fail
          refine (awake31 _).mono ?_
          rintro e w5 ⟨rfl, hb5⟩
          go_wp2
          go_ret
          exact ⟨rfl, HB4.out.trans (hb5.mono hz4)⟩
end Go.Proofs.Ytljmaicobafgkaa
