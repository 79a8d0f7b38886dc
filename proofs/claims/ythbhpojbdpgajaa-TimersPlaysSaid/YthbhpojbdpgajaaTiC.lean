/- Chapter 07, timers: slices.Clone of timers; All. -/
import Derived.Test.YthbhpojbdpgajaaTiA
namespace Go.Proofs.Ythbhpojbdpgajaa
open Go.RowKit

set_option maxHeartbeats 4000000 in
set_option maxRecDepth 100000 in
theorem clone_any {w : World} {B : Nat} {v : Value} {l : List Tm} (h : kT.row w B v l) (hl : l.length ≤ 65536) :
    Calls Try.prog 24 #[v] w fun e w' => ∃ v', e = .returned v' ∧ kT.row w' w.heap.size v' l ∧ Below w.heap.size w w' := by
  have qT : ∀ (w : World) (a : Option Addr) (n c n' c' : Nat), (binOp .eql 33 (.slice a n c) (.slice none n' c')).run Try.prog w = .ok (.bool a.isNone) w := fun w a n c n' c' => Lib.run_eql_slice_nil w _ _ a n c n' c' Try.underlying33
  rcases h.2 with ⟨rfl, h0⟩ | ⟨r, cap, cur, rfl, hb, hc, hn, hm, hs, ht⟩
  · have e : l = [] := List.length_eq_zero_iff.1 h0
    subst e
    clear h h0 hl
    go_enter Try.func24, Try.ntmps24
    go_wp2
    go_ret
    exact ⟨_, rfl, EK.row_nil _ _, Below.refl _ _⟩
  · have hal := (Below.refl w.heap.size w).alloc (Nat.le_refl _) (.cells #[] 44)
    have hr0 : kT.row (w.alloc (.cells #[] 44)) w.heap.size (.slice (some ⟨w.heap.size, 0, none⟩) 0 0) [] := ⟨rfl, .inr ⟨w.heap.size, 0, #[], rfl, Nat.le_refl _, obj_new _ _, Nat.le_refl _, by decide, rfl, rfl⟩⟩
    obtain ⟨v4, w4, happ, hrow4, hf4, hbl4⟩ := EK.app hr0 (EK.rd_below (EK.row_rd h) hal) (by simp; omega) hal.size 33
    have HAPP : Hid ((Builtin.append_ #[33, 33] 33 #[.slice (some ⟨w.heap.size, 0, none⟩) 0 0, .slice (some ⟨r, 0, none⟩) l.length cap]).run Try.prog (w.alloc (.cells #[] 44)) = .ok v4 w4) := hide happ
    have HFIN := hide (show kT.row w4 w.heap.size v4 l ∧ Below w.heap.size w w4 from ⟨by simpa using hrow4, hal.trans (hf4.below _ hal.size (fun k hk e => by
      have e' : w.heap.size = k := by cases e; rfl
      omega))⟩)
    clear h hb hc hn hm hs ht hal hr0 happ hrow4 hf4 hbl4 hl
    go_enter Try.func24, Try.ntmps24
    go_wp2_with (refine wpList_append_run rfl (.tmp 5) (.tmp 6) 33 33 rfl rfl rfl HAPP.out ?_)
    go_ret
    exact ⟨_, rfl, HFIN.out.1, HFIN.out.2⟩
theorem tall_nil (w : World) : Calls Try.prog 19 #[.pointer none] w fun e w' => e = .returned (.slice none 0 0) ∧ Below w.heap.size w w' := by
  have HB := hide ((Below.refl w.heap.size w).alloc (Nat.le_refl _) (.cells #[.pointer none] 23))
  go_enter Try.func19, Try.ntmps19
  go_wp2
  go_ret
  exact ⟨rfl, HB.out⟩
theorem srt_weak {x l : List Tm} (hp : l.Perm x) (hx : x.Pairwise Tlt) (hn : (x.map (·.id)).Nodup) (hl : l.Pairwise (fun a b => ¬ Tlt b a)) : l = x := by
  refine srt_eq ?_ hx hp
  have hnl : (l.map (·.id)).Nodup := (hp.map _).nodup_iff.2 hn
  rw [List.nodup_iff_pairwise_ne, List.pairwise_map] at hnl
  exact (hl.and hnl).imp (fun ⟨a, b⟩ => Tlt.of_ne a b)
set_option maxHeartbeats 4000000 in
set_option maxRecDepth 100000 in
theorem tall_any {w : World} {B t p c : Nat} {v : Value} {x : List Tm} (h : TX w B t p c v x) (hx : TOk x) :
    Calls Try.prog 19 #[.pointer (some ⟨t, 0, none⟩)] w fun e w' => ∃ v', e = .returned v' ∧ kT.row w' w.heap.size v' x ∧ Below w.heap.size w w' := by
  have hlt := h.lt
  obtain ⟨h1, ⟨l, ⟨f, h2, -⟩, -, h4⟩, -⟩ := h
  have hb1 : Below w.heap.size w (w.alloc (.cells #[.pointer (some ⟨t, 0, none⟩)] 23)) := (Below.refl w.heap.size w).alloc (Nat.le_refl _) _
  have HCL := hide (clone_any (EK.row_below h2.2.1 hb1) (by rw [h4.length_eq]; have := hx.few; omega))
  have z0 := obj_cell h1 0
  have z1 := obj_cell h2.1 0
  simp only [List.getElem?_toArray, List.getElem?_cons_zero] at z0 z1
  have HCAP := hide (show Cap (w.alloc (.cells #[.pointer (some ⟨t, 0, none⟩)] 23)) w.heap.size t p from ⟨obj_new _ _, obj_below h1 hb1, _, _, obj_below h2.1 hb1⟩)
  have HB1 := hide hb1
  have HX := hide hx
  have HP := hide h4
  clear h1 h2 h4 hb1 hx
  go_enter Try.func19, Try.ntmps19
  go_wp2_with fail
  refine HCL.out.mono ?_
  rintro e w2 ⟨v', rfl, hr, hb⟩
  obtain ⟨A, cc, rfl⟩ := EK.row_slice hr
  have hs1 : (w.alloc (.cells #[.pointer (some ⟨t, 0, none⟩)] 23)).heap.size = w.heap.size + 1 := by simp
  have HSO := hide (tsort_any hr (HCAP.out.below hb) (fun q hq => by
    have := (EK.row_typed hr hq).1
    omega) (by rw [HP.out.length_eq]; have := HX.out.few; omega))
  have HR := hide hr
  have HB2 := hide (HB1.out.trans (hb.mono (by omega)))
  clear hr hb hs1
  go_wp2_with fail
  refine HSO.out.mono ?_
  rintro e w3 ⟨rfl, l', hp, hsr, hr3, hf3⟩
  have e1 := srt_weak (hp.trans HP.out) HX.out.srt HX.out.ids hsr
  subst e1
  have HFIN := hide (show kT.row w3 w.heap.size (.slice A l.length cc) l' ∧ Below w.heap.size w w3 from ⟨EK.row_base hr3 (by simp), HB2.out.trans (hf3.below _ HB2.out.size (fun k hk e => by
    have := (EK.row_typed HR.out e).1
    simp at this
    omega))⟩)
  clear hp hsr hr3 hf3
  go_wp2
  go_ret
  exact ⟨_, rfl, HFIN.out.1, HFIN.out.2⟩
end Go.Proofs.Ythbhpojbdpgajaa
