/- Chapter 15, replies: Put, Take. -/
import Derived.Test.YthcnoamgkkbkcaaRp3
namespace Go.Proofs.Ythcnoamgkkbkcaa
open Go.RowKit

theorem putR_nil (c id : Int) (s : ByteArray) (w : World) : Calls Try.prog 35 #[.pointer none, .int .i64 c, .int .i64 id, .string s] w fun e w' => e = .returned (.bool false) ∧ w = w' := by
  go_enter Try.func35, Try.ntmps35
  go_wp2
  go_ret
  exact ⟨rfl, rfl⟩
theorem isAt_some {l : List En} {id : Int} {e : En} (h : l[ahd l id]? = some e) : isAt l id = (e.id == id) := by unfold isAt; rw [h]
theorem isAt_none {l : List En} {id : Int} (h : l[ahd l id]? = none) : isAt l id = false := by unfold isAt; rw [h]
set_option maxHeartbeats 8000000 in
set_option maxRecDepth 100000 in
theorem putR_any {w : World} {B g cm : Nat} {S : RS} {f : Int → Option Value} (h : RV w B g cm S f) (hk : ROk S) (c id : Int) (s : ByteArray) :
    Calls Try.prog 35 #[.pointer (some ⟨g, 0, none⟩), .int .i64 c, .int .i64 id, .string s] w fun e w' => e = .returned (.bool (rPut S c id s).2) ∧ RA w B g cm f (rPut S c id s).1 w' := by
  have HMR := hide (fun W => mayR_any c id W)
  have HSELF := hide (fun (W : World) (hb : Below w.heap.size w W) => h.self hk hb)
  unfold rPut
  by_cases hm : mayR c id
  rotate_left
  · rw [if_neg (fun hh => hm hh.1), decide_eq_false hm] at *
    simp only
    clear h hk hm
    go_enter Try.func35, Try.ntmps35
    go_wp2_with fail
    refine (HMR.out _).mono ?_
    rintro e w1 ⟨rfl, rfl⟩
    go_wp2
    go_ret
    exact ⟨rfl, HSELF.out _ (Below.refl _ _)⟩
  rw [decide_eq_true hm] at HMR
  by_cases hs : s.size ≤ 4096
  rotate_left
  · rw [if_neg (fun hh => hs hh.2)]
    simp only
    have hsi : (4096 : Int) < (s.size : Int) := by omega
    clear h hk hm hs
    go_enter Try.func35, Try.ntmps35
    go_wp2_with fail
    refine (HMR.out _).mono ?_
    rintro e w1 ⟨rfl, rfl⟩
    go_wp2
    go_ret
    exact ⟨rfl, HSELF.out _ (Below.refl _ _)⟩
  rw [if_pos ⟨hm, hs⟩]
  have hsi : ¬ (4096 : Int) < (s.size : Int) := by omega
  have HFI := hide (findR_any h hk c id (by have := hm.2.2; omega))
  rcases e0 : (S.L c)[ahd (S.L c) id]? with _ | e
  · simp only
    rw [isAt_none e0] at HFI
    clear h hk hm hs e0
    go_enter Try.func35, Try.ntmps35
    go_wp2_with fail
    refine (HMR.out _).mono ?_
    rintro e w1 ⟨rfl, rfl⟩
    go_wp2_with fail
    refine HFI.out.mono ?_
    rintro e w1 ⟨rfl, hb1⟩
    have HB1 := hide hb1
    clear hb1
    go_wp2
    go_ret
    exact ⟨rfl, HSELF.out _ HB1.out⟩
  · simp only
    rw [isAt_some e0] at HFI
    by_cases hid : e.id = id
    rotate_left
    · rw [if_neg (fun hh => hid hh.1)]
      simp only
      have hid' : (e.id == id) = false := by simpa using hid
      rw [hid'] at HFI
      clear h hk hm hs e0 hid hid'
      go_enter Try.func35, Try.ntmps35
      go_wp2_with fail
      refine (HMR.out _).mono ?_
      rintro e w1 ⟨rfl, rfl⟩
      go_wp2_with fail
      refine HFI.out.mono ?_
      rintro e w1 ⟨rfl, hb1⟩
      have HB1 := hide hb1
      clear hb1
      go_wp2
      go_ret
      exact ⟨rfl, HSELF.out _ HB1.out⟩
    have hid' : (e.id == id) = true := by simpa using hid
    rw [hid'] at HFI
    have HV := hide h
    have HK := hide hk
    obtain ⟨i, hi⟩ : ∃ i, i = ahd (S.L c) id := ⟨_, rfl⟩
    rw [← hi] at HFI e0 ⊢
    obtain ⟨hl, he⟩ := List.getElem?_eq_some_iff.1 e0
    have HL := hide (show ∃ hl : i < (S.L c).length, (S.L c)[i] = e from ⟨hl, he⟩)
    have HE0 := hide e0
    by_cases hb : e.busy = true
    rotate_left
    · rw [if_neg (fun hh => hb hh.2)]
      simp only
      have hb' : e.busy = false := by simpa using hb
      have HBY := hide hb'
      clear h hk hm hs e0 hl he hid hid' hb hi hb'
      go_enter Try.func35, Try.ntmps35
      go_wp2_with fail
      refine (HMR.out _).mono ?_
      rintro e w1 ⟨rfl, rfl⟩
      go_wp2_with fail
      refine HFI.out.mono ?_
      rintro e' w1 ⟨rfl, hb1⟩
      have hv1 := HV.out.below hb1
      have z1 := obj_cell hv1.o 1
      simp only [List.getElem?_toArray, List.getElem?_cons_zero, List.getElem?_cons_succ] at z1
      have hlk := hv1.look c
      obtain ⟨b, o, c', e1, hc1, hc2, -, -, hcell⟩ := EK.sg_cells (hv1.sg c) HL.out.1
      rw [e1] at hlk
      simp only [maxLen] at hc2
      have q1 := hcell 1 (by decide)
      rw [HL.out.2] at q1
      simp only [kE, eC, List.getElem?_cons_zero, List.getElem?_cons_succ, HBY.out] at q1
      have hin := HL.out.1
      obtain ⟨n, hn⟩ : ∃ n, n = (S.L c).length := ⟨_, rfl⟩
      rw [← hn] at hlk hc1 hin
      have hini : (i : Int) < (n : Int) := by omega
      have HB1 := hide hb1
      clear hb1 hv1 e1 hcell hn
      go_wp2
      go_ret
      exact ⟨rfl, HSELF.out _ HB1.out⟩
    rw [if_pos ⟨hid, hb⟩]
    simp only
    have HBY := hide hb
    have HID := hide hid
    have HMS := hide (And.intro hm hs)
    clear h hk hm hs e0 hl he hid' hid hb hi
    go_enter Try.func35, Try.ntmps35
    go_wp2_with fail
    refine (HMR.out _).mono ?_
    rintro e w1 ⟨rfl, rfl⟩
    go_wp2_with fail
    refine HFI.out.mono ?_
    rintro e' w1 ⟨rfl, hb1⟩
    have hv1 := HV.out.below hb1
    have z1 := obj_cell hv1.o 1
    simp only [List.getElem?_toArray, List.getElem?_cons_zero, List.getElem?_cons_succ] at z1
    have hlk := hv1.look c
    obtain ⟨b, o, c', e1, hc1, hc2, -, -, hcell⟩ := EK.sg_cells (hv1.sg c) HL.out.1
    rw [e1] at hlk
    simp only [maxLen] at hc2
    have q1 := hcell 1 (by decide)
    rw [HL.out.2] at q1
    simp only [kE, eC, List.getElem?_cons_zero, List.getElem?_cons_succ, HBY.out] at q1
    have hin := HL.out.1
    obtain ⟨v, hfc, hvo⟩ : ∃ v, f c = some v ∧ v = .slice (some ⟨b, o, none⟩) (S.L c).length c' := by
      unfold vOf at e1
      rcases e2 : f c with _ | v
      · rw [e2] at e1
        cases e1
      · rw [e2] at e1
        exact ⟨v, rfl, e1⟩
    have hsg := (hv1.yes c v hfc).2
    rw [hvo] at hsg
    obtain ⟨p1, p2, p3⟩ := EK.sg_put hsg hin ⟨id, false, s⟩
    have HST : Hid ((Instr.storeAt 116 (.pointer (some ⟨b, o + i * 3, none⟩)) (.agg #[.int .i64 id, .bool false, .string s])).run Try.prog w1 = .ok () (w1.setCells b (o + i * 3) [.int .i64 id, .bool false, .string s])) := hide p1
    have hin2 := hv1.inplace hfc (l := (S.L c).set i ⟨id, false, s⟩) (w' := w1.setCells b (o + i * 3) [.int .i64 id, .bool false, .string s]) (Fr.mono p3 (fun j _ e => by rw [hvo, e]; rfl)) (by rw [hvo]; exact p2) (fun e => by
      have := congrArg List.length e
      rw [List.length_set] at this
      simp only [List.length_nil] at this
      omega)
    have HRES := hide (show RA w B g cm f ⟨S.room, setL S.L c ((S.L c).set i ⟨id, false, s⟩)⟩ (w1.setCells b (o + i * 3) [.int .i64 id, .bool false, .string s]) from
      ⟨f, hin2.1, HK.out.put ⟨HMS.out.1.1, HMS.out.1.2.1⟩ HMS.out.2 HE0.out HID.out, (Fr.of_below hb1).trans hin2.2 (fun _ _ e => e), fun _ e => .inl e⟩)
    obtain ⟨n, hn⟩ : ∃ n, n = (S.L c).length := ⟨_, rfl⟩
    rw [← hn] at hlk hc1 hin
    have hini : (i : Int) < (n : Int) := by omega
    clear hb1 hv1 e1 hcell hn hfc hvo hsg p1 p2 p3 hin2
    go_wp2_with (refine wpList_storev' (w' := w1.setCells b (o + i * 3) [.int .i64 id, .bool false, .string s]) rfl 116 (.tmp 56) (.tmp 55) rfl rfl rfl ?_ ?_; exact HST.out)
    go_ret
    exact ⟨rfl, HRES.out⟩
end Go.Proofs.Ythcnoamgkkbkcaa
