/- Chapter 15, replies: the contracts joined; the example. -/
import Derived.Test.YthcnoamgkkbkcaaRpB
namespace Go.Proofs.Ythcnoamgkkbkcaa
open Go.RowKit

/-- Blocks of other kinds stay. -/
def KpR (w w' : World) : Prop := ∀ (q : Nat) (cs : Array Value) (ty : TypeId) (f : Nat × Nat), w.heap[q]? = some (.cells cs ty f) → ty ≠ 108 → ty ≠ 116 → w'.heap[q]? = some (.cells cs ty f)
theorem KpR.trans {a b c : World} (h : KpR a b) (h2 : KpR b c) : KpR a c := fun q cs ty f h0 h1 h3 => h2 q cs ty f (h q cs ty f h0 h1 h3) h1 h3
theorem KpR.of_below {w w' : World} (h : Below w.heap.size w w') : KpR w w' := fun _ _ _ _ h0 _ _ => obj_below h0 h
/-- A server's calls, since a world. -/
structure RR (w0 : World) (B g cm : Nat) (S : RS) (W : World) : Prop where
  rv : ∃ f, RV W B g cm S f
  ok : ROk S
  b : Below B w0 W
  bs : B ≤ w0.heap.size
section
variable {w0 w W W' : World} {B g cm : Nat} {S S' : RS} {f : Int → Option Value}
theorem RV.other (h : RV w B g cm S f) {q : Nat} {cs : Array Value} {ty : TypeId} {fz : Nat × Nat} (hq : w.heap[q]? = some (.cells cs ty fz)) (h1 : ty ≠ 108) (h2 : ty ≠ 116) : ¬ Ow g cm f q := by
  rintro (rfl | rfl | ⟨c, v, e1, e2⟩)
  · rw [h.o] at hq
    cases hq
    exact h1 rfl
  · obtain ⟨es, k, h3⟩ := MK.mp_obj h.mp
    rw [h3] at hq
    cases hq
  · obtain ⟨-, -, cs', h3⟩ := EK.sg_typed (h.yes c v e1).2 e2
    rw [h3] at hq
    cases hq
    exact h2 rfl
theorem RA.rr (h : RR w0 B g cm S W) (hv : RV W B g cm S f) (ha : RA W B g cm f S' W') : RR w0 B g cm S' W' ∧ KpR W W' ∧ Below B W W' := by
  obtain ⟨f', a1, a2, a3, a4⟩ := ha
  have hb : Below B W W' := a3.below B hv.bsz (fun j hj e => by have := hv.owB e; omega)
  exact ⟨⟨⟨f', a1⟩, a2, h.b.trans hb, h.bs⟩, fun q cs ty fz hq h1 h2 => a3.obj hq (hv.other hq h1 h2), hb⟩
theorem RR.below (h : RR w0 B g cm S W) (hb : Below W.heap.size W W') : RR w0 B g cm S W' := by
  obtain ⟨f, hv⟩ := h.rv
  exact ⟨⟨f, hv.below hb⟩, h.ok, h.b.trans (hb.mono hv.bsz), h.bs⟩
theorem RR.fr {F : Nat → Prop} (h : RR w0 B g cm S W) (hf : Fr F W W') (hF : ∀ j, F j → B ≤ j ∧ ∃ cs ty fz, W.heap[j]? = some (.cells cs ty fz) ∧ ty ≠ 108 ∧ ty ≠ 116) : RR w0 B g cm S W' := by
  obtain ⟨f, hv⟩ := h.rv
  have key : ∀ j, Ow g cm f j → ¬ F j := fun j e e2 => by
    obtain ⟨-, cs, ty, fz, h1, h2, h3⟩ := hF j e2
    exact hv.other h1 h2 h3 e
  refine ⟨⟨f, hf.obj hv.o (key g (.inl rfl)), MK.mp_fr hv.mp hf (key cm (.inr (.inl rfl))), hv.no, fun c v e => ⟨(hv.yes c v e).1, EK.sg_fr (hv.yes c v e).2 hf (fun k e2 => key k (.inr (.inr ⟨c, v, e, e2⟩)))⟩, hv.sep, hv.bg⟩, h.ok, h.b.trans (hf.below B hv.bsz (fun j hj e => by have := (hF j e).1; omega)), h.bs⟩
theorem take_rr (h : RR w0 B g cm S W) (c id : Int) :
    Calls Try.prog 37 #[.pointer (some ⟨g, 0, none⟩), .int .i64 c, .int .i64 id] W fun e W' => e = .returned (.tuple #[.int .i64 (rTake S c id).2.1, .string (rTake S c id).2.2]) ∧ RR w0 B g cm (rTake S c id).1 W' ∧ KpR W W' ∧ Below B W W' := by
  obtain ⟨f, hv⟩ := h.rv
  refine (takeR_any hv h.ok c id).mono ?_
  rintro e W' ⟨rfl, ha⟩
  exact ⟨rfl, ha.rr h hv⟩
theorem put_rr (h : RR w0 B g cm S W) (c id : Int) (s : ByteArray) :
    Calls Try.prog 35 #[.pointer (some ⟨g, 0, none⟩), .int .i64 c, .int .i64 id, .string s] W fun e W' => e = .returned (.bool (rPut S c id s).2) ∧ RR w0 B g cm (rPut S c id s).1 W' ∧ KpR W W' ∧ Below B W W' := by
  obtain ⟨f, hv⟩ := h.rv
  refine (putR_any hv h.ok c id s).mono ?_
  rintro e W' ⟨rfl, ha⟩
  exact ⟨rfl, ha.rr h hv⟩
theorem ids_rr (h : RR w0 B g cm S W) (c : Int) :
    Calls Try.prog 38 #[.pointer (some ⟨g, 0, none⟩), .int .i64 c] W fun e W' => ∃ ov, e = .returned ov ∧ kI.row W' W.heap.size ov (rIds S c) ∧ RR w0 B g cm S W' ∧ Below W.heap.size W W' := by
  obtain ⟨f, hv⟩ := h.rv
  refine (idsR_any hv h.ok c).mono ?_
  rintro e W' ⟨ov, rfl, hr, hb⟩
  exact ⟨ov, rfl, hr, h.below hb, hb⟩
theorem text_rr (h : RR w0 B g cm S W) :
    Calls Try.prog 40 #[.pointer (some ⟨g, 0, none⟩)] W fun e W' => e = .returned (.string ⟨(textR S).toArray⟩) ∧ RR w0 B g cm S W' ∧ Below W.heap.size W W' := by
  obtain ⟨f, hv⟩ := h.rv
  refine (textR_any hv h.ok).mono ?_
  rintro e W' ⟨rfl, hb⟩
  exact ⟨rfl, h.below hb, hb⟩
theorem new_rr (room : Int) (w : World) : Calls Try.prog 32 #[.int .i64 room] w fun e w' => ∃ g cm, e = .returned (.pointer (some ⟨g, 0, none⟩)) ∧ RR w w.heap.size g cm (newR room) w' := by
  refine (newR_any room w).mono ?_
  rintro e w' ⟨g, cm, rfl, hv, hb⟩
  exact ⟨g, cm, rfl, ⟨_, hv⟩, newR_ok room, hb, Nat.le_refl _⟩
end
theorem textR_len {S : RS} (h : ROk S) : (textR S).length ≤ 16777216 := by
  have h1 := cls_len S
  have h2 := h.room
  have h3 := num_len ((cls S).length : Int) (by omega) (by omega)
  have h4 := flat_len (g := clB S) (m := 65883) (l := cls S) (fun c _ => clB_len h c)
  have h5 : (cls S).length * 65883 ≤ 64 * 65883 := Nat.mul_le_mul_right _ h1
  unfold textR
  rw [List.length_append, List.length_append, List.length_singleton]
  omega
/-- What was laid is read. -/
theorem read_text {S : RS} (h : ROk S) (w : World) : Calls Try.prog 42 #[.string ⟨(textR S).toArray⟩] w fun e w' => ∃ g cm, e = .returned (.tuple #[.pointer (some ⟨g, 0, none⟩), .int .i64 0]) ∧ RR w w.heap.size g cm S w' := by
  have h1 := rRead_any ⟨(textR S).toArray⟩ w (textR_len h)
  rw [show (⟨(textR S).toArray⟩ : ByteArray).data.toList = textR S from rfl, rRead_text h] at h1
  refine h1.mono ?_
  rintro e w' ⟨hb, g, cm, f, rfl, hv, hk⟩
  exact ⟨g, cm, rfl, ⟨f, hv⟩, hk, hb, Nat.le_refl _⟩
/-! The example. -/
def mkS (l : List En) : RS := ⟨2, setL (fun _ => []) 1 l⟩
theorem setL_setL (L : Int → List En) (c : Int) (a b : List En) : setL (setL L c a) c b = setL L c b := by
  funext j
  by_cases h : j = c
  · rw [h, setL_same, setL_same]
  · rw [setL_other _ _ h, setL_other _ _ h, setL_other _ _ h]
theorem mkS_up (l l' : List En) : (⟨2, setL (mkS l).L 1 l'⟩ : RS) = mkS l' := by
  unfold mkS
  rw [setL_setL]
theorem mkS_nil : newR 2 = mkS [] := by
  unfold newR mkS
  congr 1
  funext j
  by_cases h : j = 1
  · rw [h, setL_same]
  · rw [setL_other _ _ h]
def tX : ByteArray := ⟨#[120]⟩
def tY : ByteArray := ⟨#[121]⟩
def en5 : En := ⟨5, true, ByteArray.empty⟩
def en5x : En := ⟨5, false, tX⟩
def en7 : En := ⟨7, true, ByteArray.empty⟩
theorem kI_two (w : World) (a b : Int) : kI.row (w.alloc (.cells #[.int .i64 a, .int .i64 b] 3)) w.heap.size (.slice (some ⟨w.heap.size, 0, none⟩) 2 2) [a, b] :=
  ⟨rfl, .inr ⟨w.heap.size, 2, _, rfl, Nat.le_refl _, obj_new w _, by simp, by simp [maxLen], rfl, rfl⟩⟩
set_option maxHeartbeats 8000000 in
set_option maxRecDepth 100000 in
theorem awake15 (w : World) : Calls Try.prog 31 #[] w fun e w' => e = .returned (.bool true) ∧ Below w.heap.size w w' := by
  have HN := hide (new_rr 2 w)
  rw [mkS_nil] at HN
  have c1 : rTake (mkS []) 1 5 = (⟨2, setL (mkS []).L 1 [en5]⟩, 1, ByteArray.empty) := by kernel_rfl
  have c2 : rTake (mkS [en5]) 1 5 = (mkS [en5], 3, ByteArray.empty) := by kernel_rfl
  have p1 : rPut (mkS [en5]) 1 5 tX = (⟨2, setL (mkS [en5]).L 1 [en5x]⟩, true) := by kernel_rfl
  have p2 : rPut (mkS [en5x]) 1 5 tY = (mkS [en5x], false) := by kernel_rfl
  have c3 : rTake (mkS [en5x]) 1 5 = (mkS [en5x], 2, tX) := by kernel_rfl
  have c4 : rTake (mkS [en5x]) 1 7 = (⟨2, setL (mkS [en5x]).L 1 [en5x, en7]⟩, 1, ByteArray.empty) := by kernel_rfl
  have c5 : rTake (mkS [en5x, en7]) 1 3 = (mkS [en5x, en7], 4, ByteArray.empty) := by kernel_rfl
  have c6 : rTake (mkS [en5x, en7]) 64 3 = (mkS [en5x, en7], 0, ByteArray.empty) := by kernel_rfl
  have i1 : rIds (mkS [en5x, en7]) 1 = [5, 7] := by kernel_rfl
  rw [mkS_up] at c1 p1 c4
  have H1 := hide (fun (W : World) (g cm : Nat) (h : RR w w.heap.size g cm (mkS []) W) => take_rr h 1 5)
  have H2 := hide (fun (W : World) (g cm : Nat) (h : RR w w.heap.size g cm (mkS [en5]) W) => take_rr h 1 5)
  have H3 := hide (fun (W : World) (g cm : Nat) (h : RR w w.heap.size g cm (mkS [en5]) W) => put_rr h 1 5 tX)
  have H4 := hide (fun (W : World) (g cm : Nat) (h : RR w w.heap.size g cm (mkS [en5x]) W) => put_rr h 1 5 tY)
  have H5 := hide (fun (W : World) (g cm : Nat) (h : RR w w.heap.size g cm (mkS [en5x]) W) => take_rr h 1 5)
  have H6 := hide (fun (W : World) (g cm : Nat) (h : RR w w.heap.size g cm (mkS [en5x]) W) => take_rr h 1 7)
  have H7 := hide (fun (W : World) (g cm : Nat) (h : RR w w.heap.size g cm (mkS [en5x, en7]) W) => take_rr h 1 3)
  have H8 := hide (fun (W : World) (g cm : Nat) (h : RR w w.heap.size g cm (mkS [en5x, en7]) W) => take_rr h 64 3)
  have H9 := hide (fun (W : World) (g cm : Nat) (h : RR w w.heap.size g cm (mkS [en5x, en7]) W) => text_rr h)
  have H10 := hide (fun (W : World) (h : ROk (mkS [en5x, en7])) => read_text h W)
  have H11 := hide (fun (w0 W : World) (g cm : Nat) (h : RR w0 w0.heap.size g cm (mkS [en5x, en7]) W) => ids_rr h 1)
  simp only [c1] at H1
  simp only [c2] at H2
  simp only [p1] at H3
  simp only [p2] at H4
  simp only [c3] at H5
  simp only [c4] at H6
  simp only [c5] at H7
  simp only [c6] at H8
  simp only [i1] at H11
  clear c1 c2 p1 p2 c3 c4 c5 c6 i1
  obtain ⟨tt, htt⟩ : ∃ t, t = (⟨(textR (mkS [en5x, en7])).toArray⟩ : ByteArray) := ⟨_, rfl⟩
  rw [← htt] at H9 H10
  clear htt
  have HRT := hide (fun (W : World) (u v : Value) (B B' : Nat) (hu : kI.row W B u [5, 7]) (hv : kI.row W B' v [5, 7]) => ints_yes hu hv)
  unfold tX tY at *
  go_enter Try.func31, Try.ntmps31
  go_wp2_with fail
  refine HN.out.mono ?_
  rintro e w1 ⟨g, cm, rfl, h1⟩
  have HC := hide h1
  clear h1
  go_wp2_with fail
  refine (H1.out _ _ _ HC.out).mono ?_
  rintro e w2 ⟨rfl, h2, -⟩
  have HC2 := hide h2
  clear h2
  go_wp2_with fail
  refine (H2.out _ _ _ HC2.out).mono ?_
  rintro e w3 ⟨rfl, h3, -⟩
  have HC3 := hide h3
  clear h3
  go_wp2_with fail
  refine (H3.out _ _ _ HC3.out).mono ?_
  rintro e w4 ⟨rfl, h4, -⟩
  have HC4 := hide h4
  clear h4
  go_wp2_with fail
  refine (H4.out _ _ _ HC4.out).mono ?_
  rintro e w5 ⟨rfl, h5, -⟩
  have HC5 := hide h5
  clear h5
  go_wp2_with fail
  refine (H5.out _ _ _ HC5.out).mono ?_
  rintro e w6 ⟨rfl, h6, -⟩
  have HC6 := hide h6
  clear h6
  go_wp2_with fail
  refine (H6.out _ _ _ HC6.out).mono ?_
  rintro e w7 ⟨rfl, h7, -⟩
  have HC7 := hide h7
  clear h7
  go_wp2_with fail
  refine (H7.out _ _ _ HC7.out).mono ?_
  rintro e w8 ⟨rfl, h8, -⟩
  have HC8 := hide h8
  clear h8
  go_wp2_with fail
  refine (H8.out _ _ _ HC8.out).mono ?_
  rintro e w9 ⟨rfl, h9, -⟩
  have HC9 := hide h9
  clear h9
  go_wp2_with fail
  refine (H9.out _ _ _ HC9.out).mono ?_
  rintro e w10 ⟨rfl, h10, -⟩
  have HC10 := hide h10
  clear h10
  go_wp2_with fail
  refine (H10.out _ HC10.out.ok).mono ?_
  rintro e w11 ⟨g2, cm2, rfl, h11⟩
  have HB11 := hide (HC10.out.b.trans (h11.b.mono HC10.out.b.size))
  have HC11 := hide h11
  clear h11
  go_wp2_with fail
  refine (H11.out _ _ _ _ HC11.out).mono ?_
  rintro e w12 ⟨ov, rfl, hr, h12, hb12⟩
  have HB12 := hide (HB11.out.trans (hb12.mono HB11.out.size))
  have hal := (Below.refl w12.heap.size w12).alloc (Nat.le_refl _) (.cells #[.int .i64 5, .int .i64 7] 3)
  have HBA := hide hal
  have HRW := hide (EK.row_below hr hal)
  obtain ⟨A, c, rfl⟩ := EK.row_slice hr
  simp only [List.length_cons, List.length_nil, Nat.zero_add, Nat.reduceAdd] at HRW ⊢
  clear hr h12 hb12 hal
  go_wp2_with fail
  refine (HRT.out _ _ _ _ _ HRW.out (kI_two _ 5 7)).mono ?_
  rintro e w13 ⟨rfl, hb13⟩
  have HB13 := hide ((HB12.out.trans (HBA.out.mono HB12.out.size)).trans (hb13.mono (HB12.out.trans (HBA.out.mono HB12.out.size)).size))
  clear hb13
  go_wp2
  go_ret
  exact ⟨rfl, HB13.out⟩
end Go.Proofs.Ythcnoamgkkbkcaa
