/- Chapters 09 and 10, sector: Loose. -/
import Derived.Test.YtpebilhdlblgoaaSd8
import Derived.Test.YtpebilhdlblgoaaLib1
namespace Go.Proofs.Ytpebilhdlblgoaa
open Go.RowKit

theorem inf3 : (Try.prog.info? 3).map (fun i => (i.zero, i.size, i.bytes)) = some (some (.int .i64 0), 1, 8) := by kernel_rfl
/-- Rows of numbers. -/
def kI : EK Try.prog Int where
  cs n := [.int .i64 n]
  sz := 1
  e := 3
  t := 52
  by_ := 8
  len _ := rfl
  one a u h := by
    rw [List.mem_singleton] at h
    subst h
    rfl
  pos := by decide
  und := Try.underlying52
  inf := ek_inf inf3 rfl
  small := by decide
theorem kI_vals (l : List Int) : kI.vals l = l.map (Value.int .i64) := by
  unfold EK.vals
  induction l with
  | nil => rfl
  | cons a l ih => rw [List.flatMap_cons, ih]; rfl
def lenV (v : Value) : Nat := match v with
  | .slice _ n _ => n
  | _ => 0
theorem sorted_getD (l : List Int) (j : Nat) (h : j < l.length) : (l.toArray)[j]! = l[j] := by
  rw [getElem!_pos _ j (by simpa using h)]
  simp
/-- slices.Sort of a row. -/
theorem sort_row {w : World} {B : Nat} {v : Value} {l : List Int} (h : kI.row w B v l) (hl : l.length ≤ 1073741824) :
    Calls Try.prog 32 #[v] w fun e w' => e = .returned (.tuple #[]) ∧ kI.row w' B v (l.mergeSort fun x y => decide (x ≤ y)) ∧ Fr (fun j => v.ownBlock = some j) w w' := by
  rcases h.2 with ⟨rfl, h0⟩ | ⟨g, cap, cur, rfl, hb, hc, hn, hm, hs, ht⟩
  · have e : l = [] := List.length_eq_zero_iff.1 h0
    subst e
    refine (sh_slices_Sort_int_none none 0 w).mono ?_
    rintro e w' ⟨rfl, rfl⟩
    exact ⟨rfl, by rw [List.mergeSort_nil]; exact h, Fr.refl _ _⟩
  · have hcl : ∀ j (hj : j < l.length), cur[j]? = some (.int .i64 l[j]) := fun j hj => by
      have e1 : (kI.vals l)[j]? = some (.int .i64 l[j]) := by rw [kI_vals]; simp [hj]
      rw [← Array.getElem?_toList, ← e1, ← ht, List.getElem?_take, if_pos (by rw [show kI.sz = 1 from rfl]; omega)]
    refine (sh_slices_Sort_int g 0 cap l w (fun j hj => ?_) (obj_lt hc) (by omega)).mono ?_
    · have hj' : j < l.length := by simpa using hj
      refine ⟨?_, obj_frozen hc _⟩
      rw [Nat.zero_add, obj_cell hc, hcl j hj', sorted_getD l j hj']
    · rintro e w' ⟨rfl, n, os, rfl⟩
      have hblk : ∀ k, k < w.heap.size → (Go.Sort.grow (Go.Sort.putRow (Value.int .i64) (Go.Sort.ahead w n) g 0 (l.mergeSort fun x y => decide (x ≤ y)).toArray) os).heap[k]? = if g = k then some (.cells (Go.Sort.putCells (Value.int .i64) 0 (l.mergeSort fun x y => decide (x ≤ y)).toArray cur) 3 (0, 0)) else w.heap[k]? := fun k hk => by
        show ((w.heap.modify g (Go.Sort.onCells _)) ++ os)[k]? = _
        rw [Array.getElem?_append_left (by simpa using hk), Array.getElem?_modify]
        split
        · rename_i e
          subst e
          rw [hc]
          rfl
        · rfl
      have hg := hblk g (obj_lt hc)
      rw [if_pos rfl] at hg
      have hlen : (l.mergeSort fun x y => decide (x ≤ y)).length = l.length := List.length_mergeSort _
      refine ⟨rfl, ⟨by rw [EK.vlen], .inr ⟨g, cap, _, by rw [hlen], hb, hg, by rw [hlen]; exact hn, hm, ?_, ?_⟩⟩, rfl, rfl, rfl, ?_, fun k hk hk2 => ?_⟩
      · simpa [Go.Sort.putCells] using hs
      · have hcs : l.length ≤ cur.size := by
          rw [hs]
          show l.length ≤ cap * 1
          omega
        rw [kI_vals, hlen, show l.length * kI.sz = l.length from Nat.mul_one _]
        apply List.ext_getElem?
        intro j
        rw [List.getElem?_take]
        by_cases hj : j < l.length
        · rw [if_pos hj, Array.getElem?_toList]
          have hjc : j < cur.size := by omega
          simp only [Go.Sort.putCells, Array.getElem?_mapIdx, Array.getElem?_eq_getElem hjc, Option.map_some, Nat.zero_le, true_and, Nat.zero_add, Nat.sub_zero]
          rw [if_pos (by simpa [hlen] using hj), sorted_getD _ j (by rw [hlen]; exact hj)]
          simp [hlen, hj]
        · rw [if_neg hj, List.getElem?_eq_none (by rw [List.length_map, hlen]; omega)]
      · show w.heap.size ≤ ((w.heap.modify g (Go.Sort.onCells _)) ++ os).size
        simp
      · rw [hblk k hk, if_neg (fun e => hk2 (by rw [e]; rfl))]
/-- The numbers of the loose sectors. -/
def looseL (D : Dev) : List Int := ((List.range D.now.length).filter fun i : Nat => (D.sure (i : Int)).isSome).map fun i : Nat => (i : Int)
theorem looseL_rising (D : Dev) : (looseL D).Pairwise (· < ·) := by
  unfold looseL
  rw [List.pairwise_map]
  exact (List.pairwise_lt_range.filter _).imp (fun h => by omega)
theorem looseL_mem {D : Dev} (hd : Dok D) (k : Int) : k ∈ looseL D ↔ (D.sure k).isSome := by
  unfold looseL
  rw [List.mem_map]
  constructor
  · rintro ⟨i, hi, rfl⟩
    exact (List.mem_filter.1 hi).2
  · intro h
    obtain ⟨x, hx⟩ := Option.isSome_iff_exists.1 h
    obtain ⟨-, h1, h2⟩ := hd.dom k x hx
    refine ⟨k.toNat, List.mem_filter.2 ⟨List.mem_range.2 (by omega), ?_⟩, by omega⟩
    show (D.sure (k.toNat : Int)).isSome = true
    rw [show ((k.toNat : Nat) : Int) = k by omega]
    exact h
theorem looseL_len (D : Dev) : (looseL D).length ≤ D.now.length := by
  unfold looseL
  rw [List.length_map]
  exact Nat.le_trans (List.length_filter_le _ _) (by simp)
theorem rg_count {w : World} {c r N : Nat} {D : Dev} (hd : Dok D) {E : List (Int × ByteArray)} (h : kM.rg w c r D.sure N E) : E.length ≤ D.now.length := by
  obtain ⟨h1, h2, h3⟩ := MK.rg_nodup h
  have := nodup_sub_len (L := (List.range D.now.length).map fun i : Nat => (i : Int)) h1 (fun k hk => by
    obtain ⟨p, hp, rfl⟩ := List.mem_map.1 hk
    obtain ⟨-, a, b⟩ := hd.dom _ _ (h3 p.1 p.2 hp)
    exact List.mem_map.2 ⟨p.1.toNat, List.mem_range.2 (by omega), by omega⟩)
  simpa using this
theorem rg_loose {D : Dev} (hd : Dok D) {E : List (Int × ByteArray)} (h1 : (E.map (·.1)).Nodup) (h : ∀ k x, D.sure k = some x ↔ (k, x) ∈ E) : ((E.map (·.1)).mergeSort fun x y => decide (x ≤ y)) = looseL D := by
  refine sort_is h1 (looseL_rising D) (fun k => ?_)
  rw [looseL_mem hd, List.mem_map]
  constructor
  · rintro ⟨p, hp, rfl⟩
    rw [(h p.1 p.2).2 hp]
    rfl
  · intro hs
    obtain ⟨x, hx⟩ := Option.isSome_iff_exists.1 hs
    exact ⟨(k, x), (h k x).1 hx, rfl⟩
def DlS (w : World) (c r N : Nat) (f : Int → Option ByteArray) (wr : World) (ov : Value) : Prop :=
  ∃ E, kM.rg wr c r f N E ∧ kI.row wr w.heap.size ov (E.map (·.1)) ∧ Below w.heap.size w wr
set_option maxHeartbeats 4000000 in
set_option maxRecDepth 100000 in
theorem dloose_nil (w : World) : Calls Try.prog 25 #[.pointer none] w fun e w' => e = .returned (.slice none 0 0) ∧ w = w' := by
  go_enter Try.func25, Try.ntmps25
  go_wp2
  go_ret
  exact ⟨rfl, rfl⟩
set_option maxHeartbeats 4000000 in
set_option maxRecDepth 100000 in
theorem dloose_any {w : World} {g c : Nat} {v : Value} {D : Dev} (h : DV w g c v D) (hd : Dok D) (hL : D.now.length ≤ 65536) :
    Calls Try.prog 25 #[.pointer (some ⟨g, 0, none⟩)] w fun e w' => ∃ v', e = .returned v' ∧ kI.row w' w.heap.size v' (looseL D) ∧ Below w.heap.size w w' := by
  have z1 := obj_cell h.1 1
  simp only [List.getElem?_toArray, List.getElem?_cons_zero, List.getElem?_cons_succ] at z1
  obtain ⟨N, w1, hrun, hrg, hb1, hsz1⟩ := MK.run_rng h.2.2
  have HRUN : Hid ((Instr.range 66 (.map (some c))).run Try.prog w = .ok (.pointer (some ⟨w.heap.size, 0, none⟩)) w1) := hide hrun
  have HS := hide (show DlS w c w.heap.size N D.sure w1 (.slice none 0 0) from ⟨[], hrg, EK.row_nil _ _, hb1⟩)
  have HC := hide h.lt.2
  have HD := hide hd
  have HLL := hide hL
  clear h hrun hrg hb1 hsz1 hd hL
  go_enter Try.func25, Try.ntmps25
  go_wp2_with fail
  rw [HRUN.out]
  go_wp2_with fail
  go_loopw [3] (fun ov wr => DlS w c w.heap.size N D.sure wr ov) (fun ov _ => N - lenV ov)
  case atStart => exact HS.out
  case round =>
    obtain ⟨E, hrg, hrow, hb⟩ := hrel
    have hcnt := rg_count HD.out hrg
    rcases MK.run_nxt hrg 0 with ⟨hall, hN, hnx⟩ | ⟨k, x, w2, hlt, hfk, hnx, hrg2, hf2, hs2, hen⟩
    · have HNX := hide hnx
      have HA := hide (show ((E.map (·.1)).mergeSort fun x y => decide (x ≤ y)) = looseL D from rg_loose HD.out (MK.rg_nodup hrg).1 hall)
      have HST := hide (sort_row hrow (by rw [List.length_map]; have := HLL.out; omega))
      have HROW := hide hrow
      have HB := hide hb
      clear hall hN hnx hrg hrow hb
      go_wp2_with fail
      rw [HNX.out]
      go_wp2_with fail
      refine HST.out.mono ?_
      rintro e w3 ⟨rfl, hrow3, hf3⟩
      rw [HA.out] at hrow3
      have HR3 := hide hrow3
      have HB3 := hide (HB.out.trans (hf3.below _ HB.out.size (fun j hj e => by
        have := (EK.row_typed HROW.out e).1
        omega)))
      clear hrow3 hf3
      go_wp2
      go_ret
      exact ⟨_, rfl, HR3.out, HB3.out⟩
    · have hne : ∀ q, u3.ownBlock = some q → q ≠ w.heap.size := fun q hq e => by
        obtain ⟨-, -, cs, h5⟩ := EK.row_typed hrow hq
        obtain ⟨L, ck, si, se, c0, -, -, h6, -⟩ := hrg
        rw [e, h6] at h5
        cases h5
      have hrow2 := EK.row_fr hrow hf2 (fun q hq e => hne q hq e)
      have hb2 : Below w.heap.size w w2 := hb.trans (hf2.below _ hb.size (fun j hj e => by omega))
      have hrg3 := MK.rg_below hrg2 ((Below.refl w2.heap.size w2).alloc (Nat.le_refl _) (.cells #[.int .i64 k] 3))
      have hrow3 := EK.row_below hrow2 ((Below.refl w2.heap.size w2).alloc (Nat.le_refl _) (.cells #[.int .i64 k] 3))
      have hb3 : Below w.heap.size w (w2.alloc (.cells #[.int .i64 k] 3)) := hb2.alloc hb2.size _
      obtain ⟨v4, w4, happ, hrow4, hf4, hbl4⟩ := EK.app hrow3 (EK.rd_one (K := kI) k (obj_new w2 _)) (by rw [List.length_map]; have := HLL.out; simp; omega) hb3.size 52
      have hrg4 := MK.rg_fr hrg3 hf4 (fun e => by
        obtain ⟨es, q, h6⟩ := MK.mp_obj (MK.rg_mp hrg3)
        obtain ⟨-, -, cs, h5⟩ := EK.row_typed hrow3 e
        rw [h6] at h5
        cases h5) (fun e => hne _ e rfl)
      have hb4 : Below w.heap.size w w4 := hb3.trans (hf4.below _ hb3.size (fun j hj e => by
        have := (EK.row_typed hrow3 e).1
        omega))
      have HAPP : Hid ((Builtin.append_ #[52, 52] 52 #[u3, .slice (some ⟨w2.heap.size, 0, none⟩) 1 1]).run Try.prog (w2.alloc (.cells #[.int .i64 k] 3)) = .ok v4 w4) := hide happ
      have HRES := hide (show DlS w c w.heap.size N D.sure w4 v4 from ⟨E ++ [(k, x)], hrg4, by rw [List.map_append]; exact hrow4, hb4⟩)
      have HNX : Hid ((Instr.next (.pointer (some ⟨w.heap.size, 0, none⟩)) false 0).run Try.prog wr = .ok (.tuple #[.bool true, .int .i64 k, .string x]) w2) := hide hnx
      have hen' : (Instr.entry (.pointer (some ⟨w.heap.size, 0, none⟩))).run Try.prog w2 = .ok (.tuple #[.int .i64 k, .string x]) w2 := hen
      have hlv : lenV u3 = E.length ∧ lenV v4 = E.length + 1 := by
        obtain ⟨A, cc, e1⟩ := EK.row_slice hrow
        obtain ⟨A4, c4, e4⟩ := EK.row_slice hrow4
        rw [e1, e4]
        exact ⟨by simp [lenV], by simp [lenV]⟩
      clear hfk hnx hrg2 hf2 hs2 hrg3 hrow2 hrow3 hrow4 hb2 hb3 hf4 hbl4 hrg4 hb4 happ hen hrow hrg hb
      go_wp2_with fail
      rw [HNX.out]
      go_wp2_with (refine wpList_append_run rfl (.tmp 16) (.tmp 18) 52 52 rfl rfl rfl HAPP.out ?_)
      exact ⟨HRES.out, by omega⟩
end Go.Proofs.Ytpebilhdlblgoaa
