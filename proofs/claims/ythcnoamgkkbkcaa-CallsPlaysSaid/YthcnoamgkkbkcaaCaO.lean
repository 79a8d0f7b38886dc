/- Chapter 14, calls: Open. -/
import Derived.Test.YthcnoamgkkbkcaaCaA
import Derived.Test.YthcnoamgkkbkcaaSrtI
namespace Go.Proofs.Ythcnoamgkkbkcaa
open Go.RowKit

def seenN (w : World) (r : Nat) : Nat := match w.heap[r]? with
  | some (.mapIter _ _ seen _) => seen.size
  | _ => 0
theorem MK.rg_seen {P : Program} {α : Type} {K : MK P α} {w : World} {c r N : Nat} {f : Int → Option α} {D : List (Int × α)} (h : K.rg w c r f N D) : seenN w r = D.length := by
  obtain ⟨L, clock, since, seen, c0, h1, h2, h3, h4, h5, h6, h7, S, s1, s2, s3, rfl⟩ := h
  unfold seenN
  rw [h3]
  simp only
  rw [List.length_map, ← Array.length_toList, s3, List.length_map]
def isO (L : List Ck) (id : Int) : Bool := match fnd L id with
  | some k => k.opn
  | none => false
theorem opens_rising {L : List Ck} (h : L.Pairwise fun a b => a.id < b.id) : (opens L).Pairwise (· < ·) := by
  unfold opens
  rw [List.pairwise_map]
  exact h.filter _
theorem opens_mem {L : List Ck} (h : L.Pairwise fun a b => a.id < b.id) (id : Int) : id ∈ opens L ↔ isO L id = true := by
  unfold opens isO
  rw [List.mem_map]
  constructor
  · rintro ⟨k, hk, rfl⟩
    obtain ⟨h1, h2⟩ := List.mem_filter.1 hk
    rw [fnd_of h h1]
    exact h2
  · intro hh
    rcases e : fnd L id with _ | k
    · rw [e] at hh
      cases hh
    · rw [e] at hh
      obtain ⟨h1, h2⟩ := fnd_some e
      exact ⟨k, List.mem_filter.2 ⟨h1, hh⟩, h2⟩
def OpS (w : World) (cm r N : Nat) (L : List Ck) (f : Int → Option Nat) (wr : World) (ov : Value) : Prop :=
  ∃ E : List (Int × Nat), kC.rg wr cm r f N E ∧ kI.row wr w.heap.size ov ((E.map (·.1)).filter (isO L)) ∧ Below w.heap.size w wr
theorem copen_nil (w : World) : Calls Try.prog 28 #[.pointer none] w fun e w' => e = .returned (.slice none 0 0) ∧ w = w' := by
  go_enter Try.func28, Try.ntmps28
  go_wp2
  go_ret
  exact ⟨rfl, rfl⟩
set_option maxHeartbeats 4000000 in
set_option maxRecDepth 100000 in
theorem copen_any {w : World} {B g t p c cm : Nat} {v : Value} {S : CS} {x : List Tm} {f : Int → Option Nat} (h : CV w B g t p c cm v S x f) (hk : COk S x) :
    Calls Try.prog 28 #[.pointer (some ⟨g, 0, none⟩)] w fun e w' => ∃ v', e = .returned v' ∧ kI.row w' w.heap.size v' (opens S.L) ∧ Below w.heap.size w w' := by
  have z2 := obj_cell h.o 2
  simp only [cC, List.getElem?_toArray, List.getElem?_cons_zero, List.getElem?_cons_succ] at z2
  obtain ⟨N, w1, hrun, hrg, hb1, hsz1⟩ := MK.run_rng h.mp
  have HRUN : Hid ((Instr.range 89 (.map (some cm))).run Try.prog w = .ok (.pointer (some ⟨w.heap.size, 0, none⟩)) w1) := hide hrun
  have HS := hide (show OpS w cm w.heap.size N S.L f w1 (.slice none 0 0) from ⟨[], hrg, EK.row_nil _ _, hb1⟩)
  have HV := hide h
  have HK := hide hk
  have hcnt : ∀ E : List (Int × Nat), (E.map (·.1)).Nodup → (∀ k b, (k, b) ∈ E → f k = some b) → ((E.map (·.1)).filter (isO S.L)).length ≤ 64 := fun E h1 h2 => by
    have hn : ((E.map (·.1)).filter (isO S.L)).Nodup := h1.filter _
    have := nodup_sub_len (L := opens S.L) hn (fun k hk1 => (opens_mem hk.ids k).2 (List.mem_filter.1 hk1).2)
    have := hk.few
    omega
  have HCNT := hide hcnt
  clear h hrun hrg hb1 hsz1 hk hcnt
  go_enter Try.func28, Try.ntmps28
  go_wp2_with fail
  rw [HRUN.out]
  go_wp2_with fail
  go_loopw [3] (fun ov wr => OpS w cm w.heap.size N S.L f wr ov) (fun _ wr => N - seenN wr w.heap.size)
  case atStart => exact HS.out
  case round =>
    obtain ⟨E, hrg, hrow, hb⟩ := hrel
    have hcnt := HCNT.out E (MK.rg_nodup hrg).1 (MK.rg_nodup hrg).2.2
    have hseen := MK.rg_seen hrg
    rcases MK.run_nxt hrg 0 with ⟨hall, hN, hnx⟩ | ⟨k, x, w2, hlt, hfk, hnx, hrg2, hf2, hs2, hen⟩
    · have HNX := hide hnx
      have HA := hide (show (((E.map (·.1)).filter (isO S.L)).mergeSort fun x y => decide (x ≤ y)) = opens S.L from sort_is ((MK.rg_nodup hrg).1.filter _) (opens_rising HK.out.ids) (fun id => by
        rw [List.mem_filter, opens_mem HK.out.ids]
        constructor
        · exact fun hh => hh.2
        · intro hh
          refine ⟨?_, hh⟩
          rcases e : f id with _ | b
          · have h5 := HV.out.find HK.out.ids id
            unfold isO at hh
            rcases e2 : fnd S.L id with _ | k
            · rw [e2] at hh
              cases hh
            · rw [e2] at h5
              obtain ⟨b, h6, _⟩ := h5
              rw [e] at h6
              cases h6
          · exact List.mem_map.2 ⟨(id, b), (hall id b).1 e, rfl⟩))
      have HST := hide (sort_row hrow (by omega))
      have HROW := hide hrow
      have HB := hide hb
      clear hall hN hnx hrg hrow hb hcnt hseen
      go_wp2_with fail
      rw [HNX.out]
      go_wp2_with fail
      refine HST.out.mono ?_
      rintro e w3 ⟨rfl, hrow3, hf3⟩
      rw [HA.out] at hrow3
      have HR3 := hide hrow3
      have HB3 := hide (HB.out.trans (hf3.below _ HB.out.size (fun j hj e => by
        have := (EK.row_typed HROW.out e).1
        omega)))
      clear hrow3 hf3
      go_wp2
      go_ret
      exact ⟨_, rfl, HR3.out, HB3.out⟩
    · have hne : ∀ q, u3.ownBlock = some q → q ≠ w.heap.size := fun q hq e => by
        obtain ⟨-, -, cs, h5⟩ := EK.row_typed hrow hq
        obtain ⟨L, ck, si, se, c0, -, -, h6, -⟩ := hrg
        rw [e, h6] at h5
        cases h5
      have hrow2 := EK.row_fr hrow hf2 (fun q hq e => hne q hq e)
      have hb2 : Below w.heap.size w w2 := hb.trans (hf2.below _ hb.size (fun j hj e => by omega))
      obtain ⟨kc, hkc, hkid, hko⟩ := HV.out.cf.blk hfk
      have q4 := obj_cell (obj_below hko hb2) 4
      simp only [ckC, List.getElem?_toArray, List.getElem?_cons_zero, List.getElem?_cons_succ] at q4
      have hfd : fnd S.L k = some kc := by rw [← hkid]; exact fnd_of HK.out.ids hkc
      have HNX : Hid ((Instr.next (.pointer (some ⟨w.heap.size, 0, none⟩)) false 0).run Try.prog wr = .ok (.tuple #[.bool true, .int .i64 k, .pointer (some ⟨x, 0, none⟩)]) w2) := hide hnx
      have hen' : (Instr.entry (.pointer (some ⟨w.heap.size, 0, none⟩))).run Try.prog w2 = .ok (.tuple #[.int .i64 k, .pointer (some ⟨x, 0, none⟩)]) w2 := hen
      by_cases hst : kc.st = 1
      · have hiso : isO S.L k = true := by
          unfold isO
          rw [hfd]
          simp [Ck.opn, hst]
        have hrg3 := MK.rg_below hrg2 ((Below.refl w2.heap.size w2).alloc (Nat.le_refl _) (.cells #[.int .i64 k] 3))
        have hrow3 := EK.row_below hrow2 ((Below.refl w2.heap.size w2).alloc (Nat.le_refl _) (.cells #[.int .i64 k] 3))
        have hb3 : Below w.heap.size w (w2.alloc (.cells #[.int .i64 k] 3)) := hb2.alloc hb2.size _
        obtain ⟨v4, w4, happ, hrow4, hf4, hbl4⟩ := EK.app hrow3 (EK.rd_one (K := kI) k (obj_new w2 _)) (by simp only [List.length_singleton]; omega) hb3.size 54
        have hrg4 := MK.rg_fr hrg3 hf4 (fun e => by
          obtain ⟨es, q, h6⟩ := MK.mp_obj (MK.rg_mp hrg3)
          obtain ⟨-, -, cs, h5⟩ := EK.row_typed hrow3 e
          rw [h6] at h5
          cases h5) (fun e => hne _ e rfl)
        have hb4 : Below w.heap.size w w4 := hb3.trans (hf4.below _ hb3.size (fun j hj e => by
          have := (EK.row_typed hrow3 e).1
          omega))
        have hseen4 := MK.rg_seen hrg4
        rw [List.length_append, List.length_singleton] at hseen4
        have HAPP : Hid ((Builtin.append_ #[54, 54] 54 #[u3, .slice (some ⟨w2.heap.size, 0, none⟩) 1 1]).run Try.prog (w2.alloc (.cells #[.int .i64 k] 3)) = .ok v4 w4) := hide happ
        have HRES := hide (show OpS w cm w.heap.size N S.L f w4 v4 from ⟨E ++ [(k, x)], hrg4, by
          rw [List.map_append, List.filter_append]
          simp only [List.map_cons, List.map_nil, List.filter_cons, hiso, if_true, List.filter_nil]
          exact hrow4, hb4⟩)
        rw [hst] at q4
        clear hfk hnx hrg2 hf2 hs2 hrg3 hrow2 hrow3 hrow4 hb2 hb3 hf4 hbl4 hrg4 hb4 happ hen hrow hrg hb hcnt hiso hfd hst hkc hkid hko
        go_wp2_with fail
        rw [HNX.out]
        go_wp2_with (refine wpList_append_run (v' := v4) (w' := w4) rfl (.tmp 24) (.tmp 26) 54 54 rfl rfl rfl ?_ ?_; exact HAPP.out)
        exact ⟨HRES.out, by omega⟩
      · have hiso : isO S.L k = false := by
          unfold isO
          rw [hfd]
          simp [Ck.opn, hst]
        have hst2 : (kc.st == 1) = false := by simpa using hst
        have hseen2 := MK.rg_seen hrg2
        rw [List.length_append, List.length_singleton] at hseen2
        have HRES := hide (show OpS w cm w.heap.size N S.L f w2 u3 from ⟨E ++ [(k, x)], hrg2, by
          rw [List.map_append, List.filter_append]
          simp only [List.map_cons, List.map_nil, List.filter_cons, hiso, Bool.false_eq_true, if_false, List.filter_nil, List.append_nil]
          exact hrow2, hb2⟩)
        clear hfk hnx hrg2 hf2 hs2 hrow2 hb2 hen hrow hrg hb hcnt hiso hfd hst hkc hkid hko
        go_wp2_with fail
        rw [HNX.out]
        go_wp2_with fail
        exact ⟨HRES.out, by omega⟩
end Go.Proofs.Ythcnoamgkkbkcaa
