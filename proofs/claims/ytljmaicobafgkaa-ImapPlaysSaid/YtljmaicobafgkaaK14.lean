/- A join of 1 texts of this claim: Im7. Conditions: none of their own. -/
import Derived.Test.YtljmaicobafgkaaK13
section
/- Chapter 25, imap: Text of a map. -/
namespace Go.Proofs.Ytljmaicobafgkaa
open Go.RowKit Go.Shelf
attribute [local go_sem] Oper.semAt_some

theorem all_any (g : Nat) (M : Nat → Spot) (w : World) (hI : IM w g M) :
    Calls Try.prog 38 #[.pointer (some ⟨g, 0, none⟩)] w fun e W' => ∃ v, e = .returned v ∧ W'.ownsRow w.heap.size 3 1 v (entUp M 256).length (allL (entUp M 256)) ∧ Below w.heap.size w W' :=
  (callsIn_wide (n := 8)).1 (all_in Fence.wide 8 trivial trivial trivial rfl (by decide) g M w hI)
theorem each_any (p0 : Option Addr) (w : World) : Calls Try.prog 106 #[.pointer p0] w fun e w' => e = .returned (.func (.func 160) #[] #[.pointer (some ⟨w.heap.size, 0, none⟩)]) ∧ w' = w.alloc (.cells #[.pointer p0] 24) :=
  (callsIn_wide (n := 8)).1 (each_in Fence.wide 8 trivial rfl p0 w)
def textA (g bw gw : Nat) (x : Nat → Value) : Act := { tmps := #[.pointer (some ⟨g, 0, none⟩), undef, .string ⟨#[]⟩, .pointer (some ⟨bw, 0, none⟩), undef, undef, undef, undef, .pointer (some ⟨g, 0, none⟩), .bool false, .pointer (some ⟨gw, 0, none⟩), x 0, x 1, x 2, x 3, undef, undef, undef, undef, undef, undef, undef, undef, undef, undef, undef, undef, undef, undef, undef, undef, undef, undef, undef, undef, undef, undef, undef, undef, undef, undef, undef, undef, undef, undef], defers := [] }
def textV (g gw N : Nat) : Nat → Value → World → Prop
  | 0, v, _ => v = .pointer (some ⟨gw, 0, none⟩)
  | 1, v, _ => v = .pointer (some ⟨g, 0, none⟩)
  | 2, v, _ => ∃ A c, v = .slice A N c
  | 3, v, _ => v = .int .i64 (N : Int)
  | _, _, _ => True
theorem keepsFrom_fr {B g : Nat} {W W' : World} (h : Fr (· = g) W W') (hg : g < B) : KeepsFrom B W W' :=
  ⟨h.size, fun k o hB hk _ => h.obj hk (by omega)⟩
theorem below_fr {g : Nat} {w W W' : World} (hb : Below w.heap.size w W) (h : Fr (· = g) W W') (hg : w.heap.size ≤ g) : Below w.heap.size w W' :=
  hb.trans (h.below _ hb.size (fun k hk e => by omega))
set_option maxRecDepth 100000 in
set_option maxHeartbeats 4000000 in
theorem mtext_any (g : Nat) (M : Nat → Spot) (w : World) (hI : IM w g M) (hm : Mok M) :
    Calls Try.prog 40 #[.pointer (some ⟨g, 0, none⟩)] w fun e W' => e = .returned (.string ⟨(textB25 M).toArray⟩) ∧ Below w.heap.size w W' := by
  have H := hide hI
  have hlen := entUp_len M 256
  refine (callsIn_wide (n := 8)).1 ?_
  refine callsIn_of_wp_marks (F := Fence.wide) Try.func40 rfl trivial ?_ rfl
  refine wpIn_wide.2 ?_
  simp only [Try.ntmps40, List.size_toArray, List.length_cons, List.length_nil, Nat.reduceAdd, Nat.reduceSub, Array.replicate_succ, Array.replicate_zero, List.push_toArray, List.append_toArray, List.nil_append, List.cons_append]
  go_wp2_with fail
  refine (newWriter_any 65536 _ (by decide) (by decide)).mono ?_
  rintro e w1 ⟨rfl, hw1, hb1⟩
  have hsz1 := hb1.size
  have HW1 := hide (hw1.below ((Below.refl _ _).alloc (Nat.le_refl _) (.cells #[.pointer (some ⟨w.heap.size, 0, none⟩)] 175)))
  have HB1 := hide (hb1.alloc hsz1 (.cells #[.pointer (some ⟨w.heap.size, 0, none⟩)] 175))
  have HX1 := hide (obj_new w1 (.cells #[.pointer (some ⟨w.heap.size, 0, none⟩)] 175))
  have hgw : w.heap.size < w1.heap.size := hw1.lt
  clear hw1 hb1
  go_wp2_with fail
  obtain ⟨bw, hbw⟩ : ∃ bw, bw = w1.heap.size := ⟨_, rfl⟩
  obtain ⟨w2, hw2⟩ : ∃ w2, w2 = w1.alloc (.cells #[.pointer (some ⟨w.heap.size, 0, none⟩)] 175) := ⟨_, rfl⟩
  rw [← hw2] at HW1 HB1 HX1 ⊢
  rw [← hbw] at HX1 hgw hsz1 ⊢
  have hbw2 : bw < w2.heap.size := by rw [hw2, hbw]; simp
  clear hw2 hbw
  obtain ⟨N, hN⟩ : ∃ N, N = (entUp M 256).length := ⟨_, rfl⟩
  rw [← hN] at hlen
  have HN := hide hN
  clear hN
  refine wp_region_fin (textA g bw w.heap.size) (fun _ => undef) (fun x w' => Below w2.heap.size w2 w') (textV g w.heap.size N) _ rfl rfl (by kernel_rfl) (by kernel_rfl) rfl (Below.refl _ _).drew ?_ ?_ ?_
  · exact ⟨fun x v => rfl, fun x v => rfl, fun x v => rfl, fun x v => rfl, trivial⟩
  · refine ⟨?_, ?_, ?_, ?_, trivial⟩
    · intro x w' hS hx hd K hK
      refine ⟨rfl, ?_⟩
      unfold textA at hK ⊢
      have z := obj_cell (obj_below HX1.out hS) 0
      simp only [List.getElem?_toArray, List.getElem?_cons_zero] at z
      go_wp2
      exact hK (.pointer (some ⟨w.heap.size, 0, none⟩)) w' hS rfl (fun _ _ _ h => h)
    · intro x w' hS hx hd K hK
      refine ⟨rfl, ?_⟩
      unfold textA at hK ⊢
      go_wp2
      exact hK (.pointer (some ⟨g, 0, none⟩)) w' hS rfl (fun _ _ _ h => h)
    · intro x w' hS hx hd K hK
      have d0 : x 1 = .pointer (some ⟨g, 0, none⟩) := by first | exact hd _ List.mem_cons_self | exact hd _ (List.mem_cons_of_mem _ List.mem_cons_self) | exact hd _ (List.mem_cons_of_mem _ (List.mem_cons_of_mem _ List.mem_cons_self))
      refine ⟨rfl, ?_⟩
      unfold textA at hK ⊢
      simp only [d0] at hK ⊢
      go_wp2_with fail
      refine (all_any g M _ (H.out.below ((HB1.out.trans (hS.mono HB1.out.size))))).mono ?_
      rintro e w3 ⟨v, rfl, hO, hb3⟩
      obtain ⟨A, c, rfl⟩ := row_slice hO
      exact hK _ w3 (hS.trans (hb3.mono hS.size)) ⟨A, c, by rw [HN.out]⟩ (fun j u hj h => by
        match j, h with
        | 0, h => exact h
        | 1, h => exact h
        | 2, h => exact h
        | 3, h => exact h
        | _ + 4, h => exact h)
    · intro x w' hS hx hd K hK
      obtain ⟨A, c, d0⟩ : ∃ A c, x 2 = .slice A N c := by first | exact hd _ List.mem_cons_self | exact hd _ (List.mem_cons_of_mem _ List.mem_cons_self) | exact hd _ (List.mem_cons_of_mem _ (List.mem_cons_of_mem _ List.mem_cons_self))
      refine ⟨rfl, ?_⟩
      unfold textA at hK ⊢
      simp only [d0] at hK ⊢
      go_wp2
      exact hK (.int .i64 (N : Int)) w' hS rfl (fun _ _ _ h => h)
  · intro x w' hS hv K hK
    have v0 : x 0 = .pointer (some ⟨w.heap.size, 0, none⟩) := hv 0 (by decide)
    have v1 : x 1 = .pointer (some ⟨g, 0, none⟩) := hv 1 (by decide)
    obtain ⟨A, c, v2⟩ : ∃ A c, x 2 = .slice A N c := hv 2 (by decide)
    have v3 : x 3 = .int .i64 (N : Int) := hv 3 (by decide)
    refine ⟨rfl, ?_⟩
    unfold textA
    simp only [v0, v1, v2, v3]
    go_wp2_with fail
    refine (wInt_fits w.heap.size 65536 [] (N : Int) _ (HW1.out.below hS) (by simp) (by omega) (by omega) (by simp)).mono ?_
    rintro e w3 ⟨rfl, hw3, hf3⟩
    have hb3 := below_fr (HB1.out.trans (hS.mono HB1.out.size)) hf3 (Nat.le_refl _)
    have HB3 := hide hb3
    have HW3 := hide hw3
    have HX3 := hide (hf3.obj (obj_below HX1.out hS) (by omega))
    clear hb3 hw3 hf3 hS hv
    refine hK _ _ ?_
    go_wp2_with fail
    refine (each_any _ _).mono ?_
    rintro e w4 ⟨rfl, rfl⟩
    go_wp2_with fail
    have hs3 := HB3.out.size
    have HB4 := hide (HB3.out.alloc hs3 (.cells #[.pointer (some ⟨g, 0, none⟩)] 24))
    have HX4 := hide (obj_alloc HX3.out (.cells #[.pointer (some ⟨g, 0, none⟩)] 24))
    have HW4 := hide (HW3.out.below ((Below.refl _ _).alloc (Nat.le_refl _) (.cells #[.pointer (some ⟨g, 0, none⟩)] 24)))
    have cm := obj_cell (obj_new w3 (.cells #[.pointer (some ⟨g, 0, none⟩)] 24)) 0
    simp only [List.getElem?_toArray, List.getElem?_cons_zero] at cm
    obtain ⟨bm, hbm⟩ : ∃ bm, bm = w3.heap.size := ⟨_, rfl⟩
    obtain ⟨W0, hW0⟩ : ∃ W0, W0 = w3.alloc (.cells #[.pointer (some ⟨g, 0, none⟩)] 24) := ⟨_, rfl⟩
    rw [← hW0] at HB4 HX4 HW4 cm ⊢
    rw [← hbm] at cm ⊢
    have hbm0 : bm < W0.heap.size := by rw [hW0, hbm]; simp
    have hs0 := HB4.out.size
    have hbw0 : w.heap.size < W0.heap.size := by have := HW4.out.lt; omega
    have hne : bw ≠ w.heap.size := by omega
    clear hW0 hbm HB3 HX3 HW3 hs3 hK v0 v1 v2 v3 HX1 HB1 HW1 hgw hsz1 hbw2
    refine (wpIn_wide (n := 8)).1 ?_
    refine wpIn_rangeFunc_ownH (F := Fence.wide) rfl (by decide) (gf := 160) (lb := #[.pointer (some ⟨bm, 0, none⟩)]) rfl trivial (enters_of Try.func160 (by kernel_rfl) rfl)
      (eachX_stops Fence.wide 7 trivial rfl (by decide) bm w.heap.size g M hm W0 hbm0 cm (H.out.below HB4.out)) belowK_t (belowK_b hs0) (Below.refl _ _) (fun _ => rfl)
      (fun pre W => (Boxed W bw 175 (.pointer (some ⟨w.heap.size, 0, none⟩)) ∧ Wr W w.heap.size 65536 (num (N : Int) ++ bodyB (pre.map SpX.p)) 0) ∧ Below w.heap.size w W)
      (fun _ _ _ => False)
      (OwnFrom.and (OwnFrom.and (Own.from (boxed_own bw 175 (fun _ => .pointer (some ⟨w.heap.size, 0, none⟩))) _) (Own.from (Wr.own (fun pre : List SpX => num (N : Int) ++ bodyB (pre.map SpX.p))) _)) (ownFrom_below (Nat.le_refl _) hs0))
      (fun _ _ _ _ _ hs _ _ => hs)
      ⟨⟨HX4.out, by simpa [bodyB] using HW4.out⟩, HB4.out⟩
      (fun x a' W => ∃ Bx, W.heap[Bx]? = some (.cells (spotCells x.p.2) 27 (0, 0)) ∧ a' = { tmps := #[.pointer (some ⟨g, 0, none⟩), undef, .string ⟨#[]⟩, .pointer (some ⟨bw, 0, none⟩), .int .i64 (x.p.1 : Int), .pointer (some ⟨Bx, 0, none⟩), undef, undef, .pointer (some ⟨g, 0, none⟩), .bool false, .pointer (some ⟨w.heap.size, 0, none⟩), .pointer (some ⟨w.heap.size, 0, none⟩), .pointer (some ⟨g, 0, none⟩), .slice A N c, .int .i64 (N : Int), .tuple #[], .pointer (some ⟨g, 0, none⟩), .func (.func 160) #[] #[.pointer (some ⟨bm, 0, none⟩)], .int .i64 (x.p.1 : Int), .agg (spotCells x.p.2), undef, undef, undef, undef, undef, undef, undef, undef, undef, undef, undef, undef, undef, undef, undef, undef, undef, undef, undef, undef, undef, undef, undef, undef, undef], defers := [] })
      (fun x a' _ X Y row hs hg hr => by obtain ⟨Bx, h2, h3⟩ := hs; exact ⟨Bx, obj_kept h2 hg (fun r e => (hr r e).2), h3⟩)
      ?assign ?body ?done ?stop
    case assign =>
      rintro l pre x W K ⟨⟨bX1, hW1⟩, hB1⟩ hK
      unfold encP
      gi_wp2
      exact hK _ _ ((KeepsOthers.alloc _ _).from _) ((Below.refl _ W).alloc hB1.size _) ⟨⟨bX1.alloc _, hW1.below ((Below.refl _ _).alloc (Nat.le_refl _) _)⟩, hB1.alloc hB1.size _⟩ ⟨W.heap.size, obj_new _ _, rfl⟩
    case body =>
      rintro l pre x a' W hl ⟨r, hr⟩ ⟨⟨bX1, hW1⟩, hB1⟩ ⟨Bx, hx, rfl⟩ hlt
      have hxne : Bx ≠ w.heap.size := by
        obtain ⟨A', c', hb', _⟩ := hW1
        exact obj_ne hx hb' (by decide)
      have hlen0 : (num (N : Int) ++ bodyB (pre.map SpX.p)).length ≤ 12760 := by
        have h1 := num_ten25 (N : Int) (by omega) (by omega)
        have h2 := bodyB_len pre
        rw [List.length_append]
        omega
      obtain ⟨p0, p1, p2, p3⟩ := x.wf
      obtain ⟨q0, q1, q2, q3, q4, q5⟩ := p1
      have hbs : bodyB ((pre ++ [x]).map SpX.p) = bodyB (pre.map SpX.p) ++ entB25 x.p := by rw [List.map_append]; exact bodyB_snoc _ _
      have HBS := hide hbs
      clear hbs
      obtain ⟨L, hL⟩ : ∃ L, L = num (N : Int) ++ bodyB (pre.map SpX.p) := ⟨_, rfl⟩
      rw [← hL] at hW1 hlen0
      have HL := hide hL
      clear hL
      have x00 := obj_cell hx 0
      have x01 := obj_cell hx 1
      have x02 := obj_cell hx 2
      have x03 := obj_cell hx 3
      simp only [spotCells, List.getElem?_toArray, List.getElem?_cons_zero, List.getElem?_cons_succ] at x00 x01 x02 x03
      have cX0 := bX1.cell
      gi_wp2_with fail
      refine ⟨trivial, ?_⟩
      refine (CallsIn.inRound l (callsIn_wide.2 (wInt_fits w.heap.size 65536 _ (x.p.1 : Int) _ hW1 (by omega) (by omega) (by omega) (by omega)))).mono ?_
      rintro e v0 ⟨rfl, hw0, hf0⟩
      have hx0 := hf0.obj hx hxne
      have bX0 : Boxed v0 bw 175 (.pointer (some ⟨w.heap.size, 0, none⟩)) := hf0.obj bX1 hne
      have ht0 := num_ten25 (x.p.1 : Int) (by omega) (by omega)
      have hl0 : (L ++ num (x.p.1 : Int)).length = (L).length + (num (x.p.1 : Int)).length := List.length_append
      clear x00 x01 x02 x03 cX0
      have x10 := obj_cell hx0 0
      have x11 := obj_cell hx0 1
      have x12 := obj_cell hx0 2
      have x13 := obj_cell hx0 3
      simp only [spotCells, List.getElem?_toArray, List.getElem?_cons_zero, List.getElem?_cons_succ] at x10 x11 x12 x13
      have cX1 := bX0.cell
      gi_wp2_with fail
      refine ⟨trivial, ?_⟩
      refine (CallsIn.inRound l (callsIn_wide.2 (wInt_fits w.heap.size 65536 _ x.p.2.seg _ hw0 (by omega) (by omega) (by omega) (by omega)))).mono ?_
      rintro e v1 ⟨rfl, hw1, hf1⟩
      have hx1 := hf1.obj hx0 hxne
      have bX1 : Boxed v1 bw 175 (.pointer (some ⟨w.heap.size, 0, none⟩)) := hf1.obj bX0 hne
      have ht1 := num_ten25 x.p.2.seg (by omega) (by omega)
      have hl1 : ((L ++ num (x.p.1 : Int)) ++ num x.p.2.seg).length = ((L ++ num (x.p.1 : Int))).length + (num x.p.2.seg).length := List.length_append
      clear x10 x11 x12 x13 cX1
      have x20 := obj_cell hx1 0
      have x21 := obj_cell hx1 1
      have x22 := obj_cell hx1 2
      have x23 := obj_cell hx1 3
      simp only [spotCells, List.getElem?_toArray, List.getElem?_cons_zero, List.getElem?_cons_succ] at x20 x21 x22 x23
      have cX2 := bX1.cell
      gi_wp2_with fail
      refine ⟨trivial, ?_⟩
      refine (CallsIn.inRound l (callsIn_wide.2 (wInt_fits w.heap.size 65536 _ x.p.2.frm _ hw1 (by omega) (by omega) (by omega) (by omega)))).mono ?_
      rintro e v2 ⟨rfl, hw2, hf2⟩
      have hx2 := hf2.obj hx1 hxne
      have bX2 : Boxed v2 bw 175 (.pointer (some ⟨w.heap.size, 0, none⟩)) := hf2.obj bX1 hne
      have ht2 := num_ten25 x.p.2.frm (by omega) (by omega)
      have hl2 : (((L ++ num (x.p.1 : Int)) ++ num x.p.2.seg) ++ num x.p.2.frm).length = (((L ++ num (x.p.1 : Int)) ++ num x.p.2.seg)).length + (num x.p.2.frm).length := List.length_append
      clear x20 x21 x22 x23 cX2
      have x30 := obj_cell hx2 0
      have x31 := obj_cell hx2 1
      have x32 := obj_cell hx2 2
      have x33 := obj_cell hx2 3
      simp only [spotCells, List.getElem?_toArray, List.getElem?_cons_zero, List.getElem?_cons_succ] at x30 x31 x32 x33
      have cX3 := bX2.cell
      gi_wp2_with fail
      refine ⟨trivial, ?_⟩
      refine (CallsIn.inRound l (callsIn_wide.2 (wInt_fits w.heap.size 65536 _ x.p.2.len _ hw2 (by omega) (by omega) (by omega) (by omega)))).mono ?_
      rintro e v3 ⟨rfl, hw3, hf3⟩
      have hx3 := hf3.obj hx2 hxne
      have bX3 : Boxed v3 bw 175 (.pointer (some ⟨w.heap.size, 0, none⟩)) := hf3.obj bX2 hne
      have ht3 := num_ten25 x.p.2.len (by omega) (by omega)
      have hl3 : ((((L ++ num (x.p.1 : Int)) ++ num x.p.2.seg) ++ num x.p.2.frm) ++ num x.p.2.len).length = ((((L ++ num (x.p.1 : Int)) ++ num x.p.2.seg) ++ num x.p.2.frm)).length + (num x.p.2.len).length := List.length_append
      clear x30 x31 x32 x33 cX3
      have x40 := obj_cell hx3 0
      have x41 := obj_cell hx3 1
      have x42 := obj_cell hx3 2
      have x43 := obj_cell hx3 3
      simp only [spotCells, List.getElem?_toArray, List.getElem?_cons_zero, List.getElem?_cons_succ] at x40 x41 x42 x43
      have cX4 := bX3.cell
      gi_wp2_with fail
      refine ⟨trivial, ?_⟩
      refine (CallsIn.inRound l (callsIn_wide.2 (wInt_fits w.heap.size 65536 _ x.p.2.ver _ hw3 (by omega) (by omega) (by omega) (by omega)))).mono ?_
      rintro e v4 ⟨rfl, hw4, hf4⟩
      have hx4 := hf4.obj hx3 hxne
      have bX4 : Boxed v4 bw 175 (.pointer (some ⟨w.heap.size, 0, none⟩)) := hf4.obj bX3 hne
      have ht4 := num_ten25 x.p.2.ver (by omega) (by omega)
      have hl4 : (((((L ++ num (x.p.1 : Int)) ++ num x.p.2.seg) ++ num x.p.2.frm) ++ num x.p.2.len) ++ num x.p.2.ver).length = (((((L ++ num (x.p.1 : Int)) ++ num x.p.2.seg) ++ num x.p.2.frm) ++ num x.p.2.len)).length + (num x.p.2.ver).length := List.length_append
      clear x40 x41 x42 x43 cX4
      have hfr : Fr (· = w.heap.size) W v4 := ((((((Fr.refl (· = w.heap.size) W).trans hf0 (fun _ _ h => h)).trans hf1 (fun _ _ h => h)).trans hf2 (fun _ _ h => h)).trans hf3 (fun _ _ h => h)).trans hf4 (fun _ _ h => h))
      have HFR := hide hfr
      have HW9 := hide hw4
      have HX9 := hide bX4
      clear hfr hw0 hw1 hw2 hw3 hw4 hf0 hf1 hf2 hf3 hf4 hx0 hx1 hx2 hx3 hx4 bX0 bX1 bX2 bX3 bX4 hl0 hl1 hl2 hl3 hl4
      gi_wp2
      refine ⟨keepsFrom_fr HFR.out hbw0, HFR.out.below _ hB1.size (fun k hk e => by omega), ⟨HX9.out, ?_⟩, below_fr hB1 HFR.out (Nat.le_refl _)⟩
      rw [HBS.out, ← List.append_assoc, ← HL.out]
      unfold entB25
      simp only [← List.append_assoc]
      exact HW9.out
    case done =>
      rintro D ys W hD hys ⟨⟨bX1, hW1⟩, hB1⟩ hK
      have cX := bX1.cell
      have hS : num (N : Int) ++ bodyB (ys.map SpX.p) = textB25 M := by rw [hys, HN.out]; rfl
      obtain ⟨o, ho⟩ : ∃ o, o = textB25 M := ⟨_, rfl⟩
      rw [hS, ← ho] at hW1
      have HO := hide ho
      clear hS ho
      go_wp2_with fail
      refine (wDone_ok w.heap.size 65536 _ W hW1).mono ?_
      rintro e w9 ⟨rfl, rfl⟩
      clear hW1
      go_wp2
      refine ⟨by simp, .inl ⟨_, _, rfl, run_takeDeferred hK, ?_⟩⟩
      exact ⟨_, results_tmp rfl _ _ _, (by rw [← HO.out]; rfl), hB1.trans (belowK_b (w := w) (Nat.le_refl _) W D _ _ (by omega) hK rfl rfl)⟩
    case stop =>
      rintro D c pre W _ _ h _
      exact h.elim
end Go.Proofs.Ytljmaicobafgkaa
end
