/- A join of 3 texts of this claim: NtR5, NtL, NtL2. Conditions: none of their own. -/
import Derived.Test.YtljmaicobafgkaaN16
import Derived.Test.YtljmaicobafgkaaN17
section
/- Chapter 13, net: the reference: Deliver. -/
namespace Go.Proofs.Ytljmaicobafgkaa
open Go.RowKit

def rvA (bn bx bm : Nat) (ec : Int) (u x : Nat → Value) : Act := ⟨#[u 0, u 1, u 2, u 3, .pointer (some ⟨(bn + 1), 0, none⟩), .pointer (some ⟨(bn + 1 + 1), 0, none⟩), x 6, .pointer (some ⟨bx, 0, none⟩), u 8, u 9, .pointer (some ⟨bm, 0, none⟩), .int .i64 ec, u 12, u 13, u 14, u 15, u 16, u 17, u 18, u 19, u 20, u 21, u 22, u 23, u 24, u 25, u 26, u 27, u 28, u 29, u 30, u 31, u 32, u 33, u 34, u 35, u 36, x 0, x 1, x 2, x 3], []⟩
def rvV (nn : Int) (v2 vc : Value) (m : Msg) (ec : Int) (qx : Nat) (qw : Value) : Prop :=
  match qx with
  | 0 => qw = .agg #[.int .i64 nn, v2, vc]
  | 1 => qw = .agg #[.int .i64 m.k, .int .i64 m.f, .int .i64 m.t, .int .i64 m.i, .string m.b]
  | 2 => qw = .int .i64 ec
  | 3 => qw = .bool (ec == 0)
  | 6 => qw = .bool (ec == 0)
  | _ => True
set_option maxHeartbeats 4000000 in
set_option maxRecDepth 100000 in
theorem rdeliver_no {w : World} {R : RN} {vl vc : Value} (hR : RS w R vl vc) (i : Int) (h : R.l.length = 0) :
    Calls Try.prog 76 #[.agg #[.int .i64 R.n, vl, vc], .int .i64 i] w fun e w' => e = .returned (.tuple #[.agg (rv R vl vc), .agg #[.int .i64 0, .int .i64 0, .int .i64 0, .int .i64 0, .string ⟨#[]⟩], .bool false]) ∧ Below w.heap.size w w' := by
  obtain ⟨A1, c1, A2, c2, e1, e2⟩ := hR.slices
  subst e1 e2
  have hb := (((Below.refl w.heap.size w).alloc (Nat.le_refl _) (.cells #[.int .i64 R.n, (Value.slice A1 R.l.length c1), (Value.slice A2 R.c.length c2)] 120)).alloc (by simp) (.cells #[.int .i64 0, .slice none 0 0, .slice none 0 0] 120)).alloc (by simp only [World.size_alloc]; omega) (.cells #[.int .i64 0, .int .i64 0, .int .i64 0, .int .i64 0, .string ⟨#[]⟩] 63)
  have HB0 := hide hb
  have HN0 := hide (obj_alloc (obj_alloc (obj_new w (.cells #[.int .i64 R.n, (Value.slice A1 R.l.length c1), (Value.slice A2 R.c.length c2)] 120)) (.cells #[.int .i64 0, .slice none 0 0, .slice none 0 0] 120)) (.cells #[.int .i64 0, .int .i64 0, .int .i64 0, .int .i64 0, .string ⟨#[]⟩] 63))
  have HO0 := hide (obj_alloc (obj_new' w (.cells #[.int .i64 R.n, (Value.slice A1 R.l.length c1), (Value.slice A2 R.c.length c2)] 120) (.cells #[.int .i64 0, .slice none 0 0, .slice none 0 0] 120)) (.cells #[.int .i64 0, .int .i64 0, .int .i64 0, .int .i64 0, .string ⟨#[]⟩] 63))
  have HE0 := hide (obj_new ((w.alloc (.cells #[.int .i64 R.n, (Value.slice A1 R.l.length c1), (Value.slice A2 R.c.length c2)] 120)).alloc (.cells #[.int .i64 0, .slice none 0 0, .slice none 0 0] 120)) (.cells #[.int .i64 0, .int .i64 0, .int .i64 0, .int .i64 0, .string ⟨#[]⟩] 63))
  simp only [World.size_alloc] at HE0
  have H1C : Hid ((#[.int .i64 R.n, (Value.slice A1 R.l.length c1), (Value.slice A2 R.c.length c2)] : Array Value).all (·.oneCell') = true) := hide (by simp [Value.oneCell'])
  have HD := hide (rdrop13_no (hR.below hb) i h)
  clear hR hb h
  go_enter Try.func76, Try.ntmps76
  go_wp2_with fail
  refine HD.out.mono ?_
  rintro e w3 ⟨rfl, hb3⟩
  unfold rv
  have hx1 := (Below.refl w3.heap.size w3).alloc (Nat.le_refl _) (.cells #[.int .i64 R.n, (Value.slice A1 R.l.length c1), (Value.slice A2 R.c.length c2)] 120)
  have hbl := hx1.alloc (by simp) (.cells #[.int .i64 0, .int .i64 0, .string ⟨#[]⟩] 127)
  have HX5 := hide (obj_alloc (obj_new w3 (.cells #[.int .i64 R.n, (Value.slice A1 R.l.length c1), (Value.slice A2 R.c.length c2)] 120)) (.cells #[.int .i64 0, .int .i64 0, .string ⟨#[]⟩] 127))
  have HW5 := hide (obj_new' w3 (.cells #[.int .i64 R.n, (Value.slice A1 R.l.length c1), (Value.slice A2 R.c.length c2)] 120) (.cells #[.int .i64 0, .int .i64 0, .string ⟨#[]⟩] 127))
  have HN5 := hide (obj_below (obj_below HN0.out hb3) hbl)
  have HO5 := hide (obj_below (obj_below HO0.out hb3) hbl)
  have HE5 := hide (obj_below (obj_below HE0.out hb3) hbl)
  have hB3 := HB0.out.trans (hb3.mono HB0.out.size)
  have HB5 := hide (hB3.trans (hbl.mono hB3.size))
  have hs3 := hb3.size
  simp only [World.size_alloc] at hs3
  clear hx1 hbl hb3 hB3 HD HN0 HO0 HE0 HB0
  have x0 := obj_cell HX5.out 0
  have x1 := obj_cell HX5.out 1
  have x2 := obj_cell HX5.out 2
  simp only [List.getElem?_toArray, List.getElem?_cons_zero, List.getElem?_cons_succ] at x0 x1 x2
  obtain ⟨W5, hW5⟩ : ∃ W5, W5 = (w3.alloc (.cells #[.int .i64 R.n, (Value.slice A1 R.l.length c1), (Value.slice A2 R.c.length c2)] 120)).alloc (.cells #[.int .i64 0, .int .i64 0, .string ⟨#[]⟩] 127) := ⟨_, rfl⟩
  rw [← hW5] at HX5 HW5 HN5 HO5 HE5 HB5
  have hst := store_whole (P := Try.prog) (ty := 120) HO5.out (cells := #[.int .i64 R.n, (Value.slice A1 R.l.length c1), (Value.slice A2 R.c.length c2)]) info120 rfl H1C.out
  have HO6 := hide (setRow_at' (C' := #[.int .i64 R.n, (Value.slice A1 R.l.length c1), (Value.slice A2 R.c.length c2)]) HO5.out)
  have F1 := setRow_fr' W5 (w.heap.size + 1) #[.int .i64 R.n, (Value.slice A1 R.l.length c1), (Value.slice A2 R.c.length c2)]
  have hE6 := F1.obj HE5.out (by omega)
  have hst2 := store_whole (P := Try.prog) (ty := 63) hE6 (cells := #[.int .i64 0, .int .i64 0, .int .i64 0, .int .i64 0, .string ⟨#[]⟩]) info63 rfl (by simp [Value.oneCell'])
  have HE7 := hide (setRow_at' (C' := #[.int .i64 0, .int .i64 0, .int .i64 0, .int .i64 0, .string ⟨#[]⟩]) hE6)
  have F2 := setRow_fr' (W5.setRow (w.heap.size + 1) #[.int .i64 R.n, (Value.slice A1 R.l.length c1), (Value.slice A2 R.c.length c2)]) (w.heap.size + 1 + 1) #[.int .i64 0, .int .i64 0, .int .i64 0, .int .i64 0, .string ⟨#[]⟩]
  have HO7 := hide (F2.obj HO6.out (by omega))
  have HBF := hide ((HB5.out.trans (F1.below _ HB5.out.size (fun j hj e => by omega))).trans (F2.below _ (HB5.out.trans (F1.below _ HB5.out.size (fun j hj e => by omega))).size (fun j hj e => by omega)))
  have HST := hide hst
  have HST2 := hide hst2
  clear hst hst2 F1 F2 hE6
  rw [hW5] at HST HST2
  go_wp2_with (first | refine wpList_storev' rfl 120 (.tmp 4) (.tmp 29) rfl rfl rfl HST.out ?_ | refine wpList_storev' rfl 63 (.tmp 5) (.tmp 30) rfl rfl rfl HST2.out ?_)
  rw [← hW5]
  refine bodyPost_ret (res_cct13 rfl _ _ (w.heap.size + 1) (w.heap.size + 1 + 1) 120 63 _ _ (0, 0) (0, 0) _ _ rfl HO7.out Try.underlying120 rfl info120 rfl HE7.out Try.underlying63 rfl info63) rfl ?_
  exact ⟨rfl, HBF.out⟩
set_option maxHeartbeats 4000000 in
set_option maxRecDepth 100000 in
theorem rdeliver_cut {w : World} {R : RN} {vl vc : Value} (hR : RS w R vl vc) (i : Int) (h0 : 0 < R.l.length) (hbn : R.l.length ≤ 1048576) (q : Rw) (hq : q = R.l[atI i R.l.length]'(atI_lt i h0)) (hcut : lnk q.a q.b ∈ R.c) :
    Calls Try.prog 76 #[.agg #[.int .i64 R.n, vl, vc], .int .i64 i] w fun e w' => ∃ vl', e = .returned (.tuple #[.agg (rv (dpR R (atI i R.l.length)) vl' vc), .agg #[.int .i64 0, .int .i64 0, .int .i64 0, .int .i64 0, .string ⟨#[]⟩], .bool false]) ∧ RS w' (dpR R (atI i R.l.length)) vl' vc ∧ Below w.heap.size w w' := by
  obtain ⟨A1, c1, A2, c2, e1, e2⟩ := hR.slices
  subst e1 e2
  have hb := (((Below.refl w.heap.size w).alloc (Nat.le_refl _) (.cells #[.int .i64 R.n, (Value.slice A1 R.l.length c1), (Value.slice A2 R.c.length c2)] 120)).alloc (by simp) (.cells #[.int .i64 0, .slice none 0 0, .slice none 0 0] 120)).alloc (by simp only [World.size_alloc]; omega) (.cells #[.int .i64 0, .int .i64 0, .int .i64 0, .int .i64 0, .string ⟨#[]⟩] 63)
  have HB0 := hide hb
  have HN0 := hide (obj_alloc (obj_alloc (obj_new w (.cells #[.int .i64 R.n, (Value.slice A1 R.l.length c1), (Value.slice A2 R.c.length c2)] 120)) (.cells #[.int .i64 0, .slice none 0 0, .slice none 0 0] 120)) (.cells #[.int .i64 0, .int .i64 0, .int .i64 0, .int .i64 0, .string ⟨#[]⟩] 63))
  have HO0 := hide (obj_alloc (obj_new' w (.cells #[.int .i64 R.n, (Value.slice A1 R.l.length c1), (Value.slice A2 R.c.length c2)] 120) (.cells #[.int .i64 0, .slice none 0 0, .slice none 0 0] 120)) (.cells #[.int .i64 0, .int .i64 0, .int .i64 0, .int .i64 0, .string ⟨#[]⟩] 63))
  have HE0 := hide (obj_new ((w.alloc (.cells #[.int .i64 R.n, (Value.slice A1 R.l.length c1), (Value.slice A2 R.c.length c2)] 120)).alloc (.cells #[.int .i64 0, .slice none 0 0, .slice none 0 0] 120)) (.cells #[.int .i64 0, .int .i64 0, .int .i64 0, .int .i64 0, .string ⟨#[]⟩] 63))
  simp only [World.size_alloc] at HE0
  have HD := hide (rdrop13_ok (hR.below hb) i h0 hbn q hq)
  have HCUT := hide (fun wx (hr : K221.row wx 0 (Value.slice A2 R.c.length c2) R.c) => rcut_any R.n (Value.slice A1 R.l.length c1) (Value.slice A2 R.c.length c2) R.c q.a q.b wx hr)
  rw [decide_eq_true (p := lnk q.a q.b ∈ R.c) hcut] at HCUT
  have HR := hide hR
  have HVCB : Hid (∀ k, (Value.slice A2 R.c.length c2).ownBlock = some k → k < w.heap.size) := hide (fun k e => (EK.row_typed hR.2 e).2.1)
  clear hR hb h0 hbn hq hcut
  go_enter Try.func76, Try.ntmps76
  go_wp2_with fail
  refine HD.out.mono ?_
  rintro e w3 ⟨v2, rfl, hr3, hb3⟩
  unfold rv
  rw [show (dpR R (atI i R.l.length)).n = R.n from rfl]
  obtain ⟨A3, c3, e3⟩ := EK.row_slice hr3.1
  generalize (dpR R (atI i R.l.length)).l.length = m3 at e3
  subst e3
  have H1C : Hid ((#[.int .i64 R.n, (Value.slice A3 m3 c3), (Value.slice A2 R.c.length c2)] : Array Value).all (·.oneCell') = true) := hide (by simp [Value.oneCell'])
  have hx1 := (Below.refl w3.heap.size w3).alloc (Nat.le_refl _) (.cells #[.int .i64 R.n, (Value.slice A3 m3 c3), (Value.slice A2 R.c.length c2)] 120)
  have hbl := hx1.alloc (by simp) (.cells #[.int .i64 q.a, .int .i64 q.b, .string q.s] 127)
  have HX5 := hide (obj_alloc (obj_new w3 (.cells #[.int .i64 R.n, (Value.slice A3 m3 c3), (Value.slice A2 R.c.length c2)] 120)) (.cells #[.int .i64 q.a, .int .i64 q.b, .string q.s] 127))
  have HW5 := hide (obj_new' w3 (.cells #[.int .i64 R.n, (Value.slice A3 m3 c3), (Value.slice A2 R.c.length c2)] 120) (.cells #[.int .i64 q.a, .int .i64 q.b, .string q.s] 127))
  have HN5 := hide (obj_below (obj_below HN0.out hb3) hbl)
  have HO5 := hide (obj_below (obj_below HO0.out hb3) hbl)
  have HE5 := hide (obj_below (obj_below HE0.out hb3) hbl)
  have hB3 := HB0.out.trans (hb3.mono HB0.out.size)
  have HB5 := hide (hB3.trans (hbl.mono hB3.size))
  have hs3 := hb3.size
  simp only [World.size_alloc] at hs3
  have HR5 := hide (hr3.below hbl)
  have hV2 : Hid (∀ k, (Value.slice A3 m3 c3).ownBlock = some k → k < w3.heap.size) := hide (fun k e => (EK.row_typed hr3.1 e).2.1)
  clear hx1 hbl hb3 hB3 HD HN0 HO0 HE0 HB0 hr3
  have x0 := obj_cell HX5.out 0
  have x1 := obj_cell HX5.out 1
  have x2 := obj_cell HX5.out 2
  simp only [List.getElem?_toArray, List.getElem?_cons_zero, List.getElem?_cons_succ] at x0 x1 x2
  have y0 := obj_cell HW5.out 0
  have y1 := obj_cell HW5.out 1
  have y2 := obj_cell HW5.out 2
  simp only [List.getElem?_toArray, List.getElem?_cons_zero, List.getElem?_cons_succ] at y0 y1 y2
  have z0 := obj_cell HN5.out 0
  have z1 := obj_cell HN5.out 1
  have z2 := obj_cell HN5.out 2
  simp only [List.getElem?_toArray, List.getElem?_cons_zero, List.getElem?_cons_succ] at z0 z1 z2
  go_wp2_with fail
  refine (HCUT.out _ HR5.out.2).mono ?_
  rintro e w6 ⟨rfl, hb6⟩
  have HX6 := hide (obj_below HX5.out hb6)
  have HW6 := hide (obj_below HW5.out hb6)
  have HO6 := hide (obj_below HO5.out hb6)
  have HE6 := hide (obj_below HE5.out hb6)
  have HR6 := hide (HR5.out.below hb6)
  have HB6 := hide (HB5.out.trans (hb6.mono HB5.out.size))
  have hs6 := hb6.size
  simp only [World.size_alloc] at hs6
  clear hb6 HX5 HW5 HN5 HO5 HE5 HR5 HB5 x0 x1 x2 y0 y1 y2 z0 z1 z2
  have HO5 := HO6
  have HE5 := HE6
  have HR5 := HR6
  have HB5 := HB6
  have x0 := obj_cell HX6.out 0
  have x1 := obj_cell HX6.out 1
  have x2 := obj_cell HX6.out 2
  simp only [List.getElem?_toArray, List.getElem?_cons_zero, List.getElem?_cons_succ] at x0 x1 x2
  have hst := store_whole (P := Try.prog) (ty := 120) HO5.out (cells := #[.int .i64 R.n, (Value.slice A3 m3 c3), (Value.slice A2 R.c.length c2)]) info120 rfl H1C.out
  have HO8 := hide (setRow_at' (C' := #[.int .i64 R.n, (Value.slice A3 m3 c3), (Value.slice A2 R.c.length c2)]) HO5.out)
  have F1 := setRow_fr' w6 (w.heap.size + 1) #[.int .i64 R.n, (Value.slice A3 m3 c3), (Value.slice A2 R.c.length c2)]
  have hE6 := F1.obj HE5.out (by omega)
  have hst2 := store_whole (P := Try.prog) (ty := 63) hE6 (cells := #[.int .i64 0, .int .i64 0, .int .i64 0, .int .i64 0, .string ⟨#[]⟩]) info63 rfl (by simp [Value.oneCell'])
  have HE7 := hide (setRow_at' (C' := #[.int .i64 0, .int .i64 0, .int .i64 0, .int .i64 0, .string ⟨#[]⟩]) hE6)
  have F2 := setRow_fr' (w6.setRow (w.heap.size + 1) #[.int .i64 R.n, (Value.slice A3 m3 c3), (Value.slice A2 R.c.length c2)]) (w.heap.size + 1 + 1) #[.int .i64 0, .int .i64 0, .int .i64 0, .int .i64 0, .string ⟨#[]⟩]
  have HO7 := hide (F2.obj HO8.out (by omega))
  have HBF := hide ((HB5.out.trans (F1.below _ HB5.out.size (fun j hj e => by omega))).trans (F2.below _ (HB5.out.trans (F1.below _ HB5.out.size (fun j hj e => by omega))).size (fun j hj e => by omega)))
  have HRF := hide (show RS ((w6.setRow (w.heap.size + 1) #[.int .i64 R.n, (Value.slice A3 m3 c3), (Value.slice A2 R.c.length c2)]).setRow (w.heap.size + 1 + 1) #[.int .i64 0, .int .i64 0, .int .i64 0, .int .i64 0, .string ⟨#[]⟩]) (dpR R (atI i R.l.length)) (Value.slice A3 m3 c3) (Value.slice A2 R.c.length c2) from
    ⟨EK.row_fr (EK.row_fr HR5.out.1 F1 (fun k hk e => k127_ne HR5.out.1 HO5.out (by decide) (e ▸ hk))) F2 (fun k hk e => k127_ne HR5.out.1 HE5.out (by decide) (e ▸ hk)), EK.row_fr (EK.row_fr HR5.out.2 F1 (fun k hk e => by have := HVCB.out k hk; omega)) F2 (fun k hk e => by have := HVCB.out k hk; omega)⟩)
  have HST := hide hst
  have HST2 := hide hst2
  clear hst hst2 F1 F2 hE6
  go_wp2_with (first | refine wpList_storev' rfl 120 (.tmp 4) (.tmp 29) rfl rfl rfl HST.out ?_ | refine wpList_storev' rfl 63 (.tmp 5) (.tmp 30) rfl rfl rfl HST2.out ?_)
  refine bodyPost_ret (res_cct13 rfl _ _ (w.heap.size + 1) (w.heap.size + 1 + 1) 120 63 _ _ (0, 0) (0, 0) _ _ rfl HO7.out Try.underlying120 rfl info120 rfl HE7.out Try.underlying63 rfl info63) rfl ?_
  exact ⟨_, rfl, HRF.out, HBF.out⟩
set_option maxHeartbeats 4000000 in
set_option maxRecDepth 100000 in
theorem rdeliver_ok {w : World} {R : RN} {vl vc : Value} (hR : RS w R vl vc) (i : Int) (h0 : 0 < R.l.length) (hbn : R.l.length ≤ 1048576) (q : Rw) (hq : q = R.l[atI i R.l.length]'(atI_lt i h0)) (hcut : lnk q.a q.b ∉ R.c) (m : Msg) (ec : Int) (hd : decV q.s.data.toList = .tuple #[.agg m.cells, .int .i64 ec]) (h4 : 4 ≤ q.s.size) (hs : q.s.size ≤ 1073741824) :
    Calls Try.prog 76 #[.agg #[.int .i64 R.n, vl, vc], .int .i64 i] w fun e w' => ∃ vl', e = .returned (.tuple #[.agg (rv (dpR R (atI i R.l.length)) vl' vc), .agg m.cells, .bool (ec == 0)]) ∧ RS w' (dpR R (atI i R.l.length)) vl' vc ∧ Below w.heap.size w w' := by
  obtain ⟨A1, c1, A2, c2, e1, e2⟩ := hR.slices
  subst e1 e2
  have hb := (((Below.refl w.heap.size w).alloc (Nat.le_refl _) (.cells #[.int .i64 R.n, (Value.slice A1 R.l.length c1), (Value.slice A2 R.c.length c2)] 120)).alloc (by simp) (.cells #[.int .i64 0, .slice none 0 0, .slice none 0 0] 120)).alloc (by simp only [World.size_alloc]; omega) (.cells #[.int .i64 0, .int .i64 0, .int .i64 0, .int .i64 0, .string ⟨#[]⟩] 63)
  have HB0 := hide hb
  have HN0 := hide (obj_alloc (obj_alloc (obj_new w (.cells #[.int .i64 R.n, (Value.slice A1 R.l.length c1), (Value.slice A2 R.c.length c2)] 120)) (.cells #[.int .i64 0, .slice none 0 0, .slice none 0 0] 120)) (.cells #[.int .i64 0, .int .i64 0, .int .i64 0, .int .i64 0, .string ⟨#[]⟩] 63))
  have HO0 := hide (obj_alloc (obj_new' w (.cells #[.int .i64 R.n, (Value.slice A1 R.l.length c1), (Value.slice A2 R.c.length c2)] 120) (.cells #[.int .i64 0, .slice none 0 0, .slice none 0 0] 120)) (.cells #[.int .i64 0, .int .i64 0, .int .i64 0, .int .i64 0, .string ⟨#[]⟩] 63))
  have HE0 := hide (obj_new ((w.alloc (.cells #[.int .i64 R.n, (Value.slice A1 R.l.length c1), (Value.slice A2 R.c.length c2)] 120)).alloc (.cells #[.int .i64 0, .slice none 0 0, .slice none 0 0] 120)) (.cells #[.int .i64 0, .int .i64 0, .int .i64 0, .int .i64 0, .string ⟨#[]⟩] 63))
  simp only [World.size_alloc] at HE0
  have HD := hide (rdrop13_ok (hR.below hb) i h0 hbn q hq)
  have HCUT := hide (fun wx (hr : K221.row wx 0 (Value.slice A2 R.c.length c2) R.c) => rcut_any R.n (Value.slice A1 R.l.length c1) (Value.slice A2 R.c.length c2) R.c q.a q.b wx hr)
  rw [decide_eq_false (p := lnk q.a q.b ∈ R.c) hcut] at HCUT
  have HR := hide hR
  have HVCB : Hid (∀ k, (Value.slice A2 R.c.length c2).ownBlock = some k → k < w.heap.size) := hide (fun k e => (EK.row_typed hR.2 e).2.1)
  have HDE := hide (fun wx => rDecode_any q.s wx h4 hs)
  rw [hd] at HDE
  unfold Msg.cells at HDE ⊢
  clear hR hb h0 hbn hq hcut hd
  go_enter Try.func76, Try.ntmps76
  go_wp2_with fail
  refine HD.out.mono ?_
  rintro e w3 ⟨v2, rfl, hr3, hb3⟩
  unfold rv
  rw [show (dpR R (atI i R.l.length)).n = R.n from rfl]
  obtain ⟨A3, c3, e3⟩ := EK.row_slice hr3.1
  generalize (dpR R (atI i R.l.length)).l.length = m3 at e3
  subst e3
  have H1C : Hid ((#[.int .i64 R.n, (Value.slice A3 m3 c3), (Value.slice A2 R.c.length c2)] : Array Value).all (·.oneCell') = true) := hide (by simp [Value.oneCell'])
  have hx1 := (Below.refl w3.heap.size w3).alloc (Nat.le_refl _) (.cells #[.int .i64 R.n, (Value.slice A3 m3 c3), (Value.slice A2 R.c.length c2)] 120)
  have hbl := hx1.alloc (by simp) (.cells #[.int .i64 q.a, .int .i64 q.b, .string q.s] 127)
  have HX5 := hide (obj_alloc (obj_new w3 (.cells #[.int .i64 R.n, (Value.slice A3 m3 c3), (Value.slice A2 R.c.length c2)] 120)) (.cells #[.int .i64 q.a, .int .i64 q.b, .string q.s] 127))
  have HW5 := hide (obj_new' w3 (.cells #[.int .i64 R.n, (Value.slice A3 m3 c3), (Value.slice A2 R.c.length c2)] 120) (.cells #[.int .i64 q.a, .int .i64 q.b, .string q.s] 127))
  have HN5 := hide (obj_below (obj_below HN0.out hb3) hbl)
  have HO5 := hide (obj_below (obj_below HO0.out hb3) hbl)
  have HE5 := hide (obj_below (obj_below HE0.out hb3) hbl)
  have hB3 := HB0.out.trans (hb3.mono HB0.out.size)
  have HB5 := hide (hB3.trans (hbl.mono hB3.size))
  have hs3 := hb3.size
  simp only [World.size_alloc] at hs3
  have HR5 := hide (hr3.below hbl)
  have hV2 : Hid (∀ k, (Value.slice A3 m3 c3).ownBlock = some k → k < w3.heap.size) := hide (fun k e => (EK.row_typed hr3.1 e).2.1)
  clear hx1 hbl hb3 hB3 HD HN0 HO0 HE0 HB0 hr3
  have x0 := obj_cell HX5.out 0
  have x1 := obj_cell HX5.out 1
  have x2 := obj_cell HX5.out 2
  simp only [List.getElem?_toArray, List.getElem?_cons_zero, List.getElem?_cons_succ] at x0 x1 x2
  have y0 := obj_cell HW5.out 0
  have y1 := obj_cell HW5.out 1
  have y2 := obj_cell HW5.out 2
  simp only [List.getElem?_toArray, List.getElem?_cons_zero, List.getElem?_cons_succ] at y0 y1 y2
  have z0 := obj_cell HN5.out 0
  have z1 := obj_cell HN5.out 1
  have z2 := obj_cell HN5.out 2
  simp only [List.getElem?_toArray, List.getElem?_cons_zero, List.getElem?_cons_succ] at z0 z1 z2
  go_wp2_with fail
  refine (HCUT.out _ HR5.out.2).mono ?_
  rintro e w6 ⟨rfl, hb6⟩
  have HX6 := hide (obj_below HX5.out hb6)
  have HW6 := hide (obj_below HW5.out hb6)
  have HO6 := hide (obj_below HO5.out hb6)
  have HE6 := hide (obj_below HE5.out hb6)
  have HR6 := hide (HR5.out.below hb6)
  have HB6 := hide (HB5.out.trans (hb6.mono HB5.out.size))
  have hs6 := hb6.size
  simp only [World.size_alloc] at hs6
  clear hb6 HX5 HW5 HN5 HO5 HE5 HR5 HB5 x0 x1 x2 y0 y1 y2 z0 z1 z2
  have y0 := obj_cell HW6.out 0
  have y1 := obj_cell HW6.out 1
  have y2 := obj_cell HW6.out 2
  simp only [List.getElem?_toArray, List.getElem?_cons_zero, List.getElem?_cons_succ] at y0 y1 y2
  go_wp2_with fail
  refine (HDE.out _).mono ?_
  rintro e w7 ⟨rfl, hb7⟩
  have hbl := hb7.alloc hb7.size (.cells #[.int .i64 m.k, .int .i64 m.f, .int .i64 m.t, .int .i64 m.i, .string m.b] 63)
  have HX9 := hide (obj_below HX6.out hbl)
  have HO9 := hide (obj_below HO6.out hbl)
  have HE9 := hide (obj_below HE6.out hbl)
  have HR9 := hide (HR6.out.below hbl)
  have HB9 := hide (HB6.out.trans (hbl.mono HB6.out.size))
  have HM9 := hide (obj_new w7 (.cells #[.int .i64 m.k, .int .i64 m.f, .int .i64 m.t, .int .i64 m.i, .string m.b] 63))
  have hs7 := hb7.size
  obtain ⟨W9, hW9⟩ : ∃ W9, W9 = w7.alloc (.cells #[.int .i64 m.k, .int .i64 m.f, .int .i64 m.t, .int .i64 m.i, .string m.b] 63) := ⟨_, rfl⟩
  rw [← hW9] at HX9 HO9 HE9 HR9 HB9 HM9
  have HW9 := hide hW9
  clear hb7 hbl HX6 HW6 HO6 HE6 HR6 HB6 hW9 y0 y1 y2
  go_wp2_with fail
  rw [← HW9.out]
  refine wp_region_c (rvA w.heap.size w3.heap.size w7.heap.size ec) (fun j => #[37, 38, 39, 40, 0, 0, 6].getD j 0) (fun d x w8 => TwS W9 (w.heap.size + 1) (w.heap.size + 1 + 1) 120 63 #[.int .i64 0, .slice none 0 0, .slice none 0 0] #[.int .i64 R.n, (Value.slice A3 m3 c3), (Value.slice A2 R.c.length c2)] #[.int .i64 0, .int .i64 0, .int .i64 0, .int .i64 0, .string ⟨#[]⟩] #[.int .i64 m.k, .int .i64 m.f, .int .i64 m.t, .int .i64 m.i, .string m.b] (d 4) (d 5) w8) (fun qi qv => rvV R.n (Value.slice A3 m3 c3) (Value.slice A2 R.c.length c2) m ec qi qv) (by kernel_rfl) (by kernel_rfl) rfl ⟨(Fr.refl _ _).drew, by rw [if_neg (by decide)]; exact HO9.out, by rw [if_neg (by decide)]; exact HE9.out⟩ ?_ ?_ ?_
  · exact fun u => ⟨fun x v => rfl, fun x v => rfl, fun x v => rfl, fun x v => rfl, fun x v => rfl, fun x v => rfl, fun x v => rfl, trivial⟩
  · refine fun u => ⟨?_, ?_, ?_, ?_, ?_, ?_, ?_, trivial⟩
    · intro d x w' hS hdi hv hp hcl K hK
      have hS1 : TwS W9 (w.heap.size + 1) (w.heap.size + 1 + 1) 120 63 #[.int .i64 0, .slice none 0 0, .slice none 0 0] #[.int .i64 R.n, (Value.slice A3 m3 c3), (Value.slice A2 R.c.length c2)] #[.int .i64 0, .int .i64 0, .int .i64 0, .int .i64 0, .string ⟨#[]⟩] #[.int .i64 m.k, .int .i64 m.f, .int .i64 m.t, .int .i64 m.i, .string m.b] (d 4) (d 5) w' := hS
      have hN := hS1.1.obj HX9.out (by omega)
      have n0 := obj_cell hN 0
      have n1 := obj_cell hN 1
      have n2 := obj_cell hN 2
      simp only [List.getElem?_toArray, List.getElem?_cons_zero, List.getElem?_cons_succ] at n0 n1 n2
      refine ⟨rfl, ?_⟩
      unfold rvA at hK ⊢
      go_wp2
      exact hK (.agg #[.int .i64 R.n, (Value.slice A3 m3 c3), (Value.slice A2 R.c.length c2)]) w' hS rfl
    · intro d x w' hS hdi hv hp hcl K hK
      have hS1 : TwS W9 (w.heap.size + 1) (w.heap.size + 1 + 1) 120 63 #[.int .i64 0, .slice none 0 0, .slice none 0 0] #[.int .i64 R.n, (Value.slice A3 m3 c3), (Value.slice A2 R.c.length c2)] #[.int .i64 0, .int .i64 0, .int .i64 0, .int .i64 0, .string ⟨#[]⟩] #[.int .i64 m.k, .int .i64 m.f, .int .i64 m.t, .int .i64 m.i, .string m.b] (d 4) (d 5) w' := hS
      have hQ := hS1.1.obj HM9.out (by omega)
      have n0 := obj_cell hQ 0
      have n1 := obj_cell hQ 1
      have n2 := obj_cell hQ 2
      have n3 := obj_cell hQ 3
      have n4 := obj_cell hQ 4
      simp only [List.getElem?_toArray, List.getElem?_cons_zero, List.getElem?_cons_succ] at n0 n1 n2 n3 n4
      refine ⟨rfl, ?_⟩
      unfold rvA at hK ⊢
      go_wp2
      exact hK (.agg #[.int .i64 m.k, .int .i64 m.f, .int .i64 m.t, .int .i64 m.i, .string m.b]) w' hS rfl
    · intro d x w' hS hdi hv hp hcl K hK
      refine ⟨rfl, ?_⟩
      unfold rvA at hK ⊢
      go_wp2
      exact hK (.int .i64 ec) w' hS rfl
    · intro d x w' hS hdi hv hp hcl K hK
      have d0 : x 2 = .int .i64 ec := hv 2 (hp 2 (by kernel_rfl))
      refine ⟨rfl, ?_⟩
      unfold rvA at hK ⊢
      simp only [d0] at hK ⊢
      go_wp2
      exact hK (.bool (ec == 0)) w' hS rfl
    · intro d x w' hS hdi hv hp hcl K hK
      have d0 : x 0 = .agg #[.int .i64 R.n, (Value.slice A3 m3 c3), (Value.slice A2 R.c.length c2)] := hv 0 (hp 0 (by kernel_rfl))
      have hS1 : TwS W9 (w.heap.size + 1) (w.heap.size + 1 + 1) 120 63 #[.int .i64 0, .slice none 0 0, .slice none 0 0] #[.int .i64 R.n, (Value.slice A3 m3 c3), (Value.slice A2 R.c.length c2)] #[.int .i64 0, .int .i64 0, .int .i64 0, .int .i64 0, .string ⟨#[]⟩] #[.int .i64 m.k, .int .i64 m.f, .int .i64 m.t, .int .i64 m.i, .string m.b] (d 4) (d 5) w' := hS
      rw [hdi] at hS1
      have hst := store_whole (P := Try.prog) (ty := 120) hS1.2.1 (cells := #[.int .i64 R.n, (Value.slice A3 m3 c3), (Value.slice A2 R.c.length c2)]) info120 rfl H1C.out
      refine ⟨rfl, ?_⟩
      unfold rvA at hK ⊢
      simp only [d0] at hK ⊢
      exact wp_storev' 120 (.tmp 4) (.tmp 37) rfl rfl rfl hst (hK undef _ (show TwS _ _ _ _ _ _ _ _ _ true (d 5) _ from hS1.one (by omega)) trivial)
    · intro d x w' hS hdi hv hp hcl K hK
      have d0 : x 1 = .agg #[.int .i64 m.k, .int .i64 m.f, .int .i64 m.t, .int .i64 m.i, .string m.b] := hv 1 (hp 1 (by kernel_rfl))
      have hS1 : TwS W9 (w.heap.size + 1) (w.heap.size + 1 + 1) 120 63 #[.int .i64 0, .slice none 0 0, .slice none 0 0] #[.int .i64 R.n, (Value.slice A3 m3 c3), (Value.slice A2 R.c.length c2)] #[.int .i64 0, .int .i64 0, .int .i64 0, .int .i64 0, .string ⟨#[]⟩] #[.int .i64 m.k, .int .i64 m.f, .int .i64 m.t, .int .i64 m.i, .string m.b] (d 4) (d 5) w' := hS
      rw [hdi] at hS1
      have hst := store_whole (P := Try.prog) (ty := 63) hS1.2.2 (cells := #[.int .i64 m.k, .int .i64 m.f, .int .i64 m.t, .int .i64 m.i, .string m.b]) info63 rfl (by simp [Value.oneCell'])
      refine ⟨rfl, ?_⟩
      unfold rvA at hK ⊢
      simp only [d0] at hK ⊢
      exact wp_storev' 63 (.tmp 5) (.tmp 38) rfl rfl rfl hst (hK undef _ (show TwS _ _ _ _ _ _ _ _ _ (d 4) true _ from hS1.two (by omega)) trivial)
    · intro d x w' hS hdi hv hp hcl K hK
      have d0 : x 3 = .bool (ec == 0) := hv 3 (hp 3 (by kernel_rfl))
      refine ⟨rfl, ?_⟩
      unfold rvA at hK ⊢
      simp only [d0] at hK ⊢
      go_wp2
      exact hK (.bool (ec == 0)) w' hS rfl
  · intro u hu d x w8 hS hd hv
    have hd4 := hd 4 (by decide)
    have hd5 := hd 5 (by decide)
    have hS1 : TwS _ _ _ _ _ _ _ _ _ (d 4) (d 5) w8 := hS
    rw [hd4, hd5] at hS1
    have hO := hS1.2.1
    have hP := hS1.2.2
    rw [if_pos rfl] at hO hP
    have HO := hide hO
    have HP := hide hP
    have h6 : x 6 = .bool (ec == 0) := hv 6 (by decide)
    have HFIN := hide (show RS w8 (dpR R (atI i R.l.length)) (Value.slice A3 m3 c3) (Value.slice A2 R.c.length c2) ∧ Below w.heap.size w w8 from
      ⟨⟨EK.row_fr HR9.out.1 hS1.1 (fun k hk e => e.elim (fun e => k127_ne HR9.out.1 HO9.out (by decide) (e ▸ hk)) (fun e => k127_ne HR9.out.1 HE9.out (by decide) (e ▸ hk))), EK.row_fr HR9.out.2 hS1.1 (fun k hk e => by have := HVCB.out k hk; omega)⟩, HB9.out.trans (hS1.1.below _ HB9.out.size (fun j hj e => by omega))⟩)
    clear hS hS1 hd hv hu hd4 hd5 hO hP
    unfold rvA
    rw [h6]
    go_wp2
    refine bodyPost_ret (res_cct13 rfl _ _ (w.heap.size + 1) (w.heap.size + 1 + 1) 120 63 _ _ (0, 0) (0, 0) _ _ rfl HO.out Try.underlying120 rfl info120 rfl HP.out Try.underlying63 rfl info63) rfl ?_
    exact ⟨_, rfl, HFIN.out⟩
end Go.Proofs.Ytljmaicobafgkaa
end
section
/- Chapter 13, net: the net and the reference's are alike; plain. -/
namespace Go.Proofs.Ytljmaicobafgkaa
open Go.RowKit

def pclOf (x : Rw) : Pcl := ⟨(lnk x.a x.b).1, (lnk x.a x.b).2, x.s.data.toList⟩
def RelN (N : NetS) (R : RN) : Prop := N.n = R.n ∧ N.way = R.l.map pclOf ∧ ∀ p, N.cuts p = decide (p ∈ R.c)
theorem RelN.len {N : NetS} {R : RN} (h : RelN N R) : N.way.length = R.l.length := by rw [h.2.1, List.length_map]
theorem rel_new (n : Int) : RelN (net0 n) ⟨min (max n 1) 64, [], []⟩ := ⟨rfl, rfl, fun p => by simp [net0]⟩
theorem rel_can {N : NetS} {R : RN} (h : RelN N R) (f t : Int) : canS N f t ↔ (rnodeP R.n f ∧ rnodeP R.n t ∧ R.l.length < 1024) := by
  unfold canS nodeP rnodeP
  rw [h.1, h.len]
theorem rel_send {N : NetS} {R : RN} (h : RelN N R) (q : Rw) : RelN (sendN N q.a q.b q.s.data.toList) (nx1 R q) :=
  ⟨h.1, by show N.way ++ [_] = (R.l ++ [q]).map pclOf; rw [h.2.1, List.map_append]; rfl, h.2.2⟩
theorem rel_at {N : NetS} {R : RN} (h : RelN N R) {k : Nat} (hk : k < N.way.length) (hk2 : k < R.l.length) : N.way[k] = pclOf R.l[k] := by
  have h2 := h.2.1
  have : N.way[k]? = some (pclOf R.l[k]) := by rw [h2, List.getElem?_map, List.getElem?_eq_getElem hk2]; rfl
  rw [List.getElem?_eq_getElem hk] at this
  exact Option.some.inj this
theorem rel_drop {N : NetS} {R : RN} (h : RelN N R) (k : Nat) : RelN (outN N k) (dpR R k) :=
  ⟨h.1, by show N.way.eraseIdx k = (R.l.take k ++ R.l.drop (k + 1)).map pclOf; rw [h.2.1, ← List.eraseIdx_eq_take_drop_succ, map_out], h.2.2⟩
theorem rel_doub {N : NetS} {R : RN} (h : RelN N R) {k : Nat} (hk : k < N.way.length) (hk2 : k < R.l.length) : RelN (dblN N k hk) (nx1 R R.l[k]) :=
  ⟨h.1, by show N.way ++ [N.way[k]] = (R.l ++ [R.l[k]]).map pclOf; rw [rel_at h hk hk2, h.2.1, List.map_append]; rfl, h.2.2⟩
theorem rel_spoil {N : NetS} {R : RN} (h : RelN N R) {k : Nat} (hk : k < N.way.length) (hk2 : k < R.l.length) (a y : Int) : RelN (spN N k hk a y) (spR R k hk2 a y) :=
  ⟨h.1, by show N.way.set k (spP N.way[k] a y) = (R.l.set k (spQ R.l[k] a y)).map pclOf; rw [rel_at h hk hk2, h.2.1, List.map_set]; rfl, h.2.2⟩
theorem rel_cut {N : NetS} {R : RN} (h : RelN N R) (a b : Int) (on : Bool) : RelN (cutN N a b on) (cuR R a b on) := by
  refine ⟨h.1, h.2.1, fun p => ?_⟩
  show (if p = lnk a b then on else N.cuts p) = decide (p ∈ (cuR R a b on).c)
  rw [h.2.2 p]
  unfold cuR cuL
  by_cases e : p = lnk a b
  · rw [if_pos e]
    cases on <;> simp [e]
  · rw [if_neg e]
    cases on <;> simp [e]
theorem rel_node {N : NetS} {R : RN} (h : RelN N R) (a : Int) : nodeP N a ↔ rnodeP R.n a := by unfold nodeP rnodeP; rw [h.1]
end Go.Proofs.Ytljmaicobafgkaa
end
section
/- Chapter 13, net: what each call of the reference gives, held against the net. -/
namespace Go.Proofs.Ytljmaicobafgkaa
open Go.RowKit

section
variable {w : World} {N : NetS} {R : RN} {vl vc : Value}
/-- The reference's new net: beside the net X; the links that are cut are no more than one more. -/
def RefTo (X : NetS) (R R' : RN) (vl' vc' : Value) (w w' : World) : Prop := RelN X R' ∧ RS w' R' vl' vc' ∧ R'.c.length ≤ R.c.length + 1 ∧ Below w.heap.size w w'
theorem RefTo.same (h : RelN N R) (hR : RS w R vl vc) {w' : World} (hb : Below w.heap.size w w') : RefTo N R R vl vc w w' := ⟨h, hR.below hb, Nat.le_succ _, hb⟩
theorem ref_send (h : RelN N R) (hR : RS w R vl vc) (mk mf mt mi : Int) (mb o : ByteArray) (ec : Int) (hE : REncTo mk mf mt mi mb o ec) :
    Calls Try.prog 75 #[.agg (rv R vl vc), .agg #[.int .i64 mk, .int .i64 mf, .int .i64 mt, .int .i64 mi, .string mb]] w fun e w' => ∃ R' vl' vc', e = .returned (.tuple #[.agg (rv R' vl' vc'), .bool (sendY N mf mt ec)]) ∧ RefTo (sendX N mf mt o ec) R R' vl' vc' w w' := by
  by_cases hs : canS N mf mt ∧ ec = 0
  · have hy : sendY N mf mt ec = true := decide_eq_true hs
    obtain ⟨hc, rfl⟩ := hs
    obtain ⟨h1, h2, h3⟩ := (rel_can h mf mt).1 hc
    refine (rsend_ok hR mk mi mb ⟨mf, mt, o⟩ hE h1 h2 h3).mono ?_
    rintro e w' ⟨vl', he, hr, hb⟩
    refine ⟨_, vl', vc, by rw [he, hy], ?_, hr, Nat.le_succ _, hb⟩
    unfold sendX
    rw [hy, if_pos rfl]
    exact rel_send h ⟨mf, mt, o⟩
  · have hy : sendY N mf mt ec = false := decide_eq_false hs
    refine (rsend_no hR mk mf mt mi mb o ec hE (fun hh => hs ⟨(rel_can h mf mt).2 hh.2, hh.1⟩)).mono ?_
    rintro e w' ⟨he, hb⟩
    unfold sendX
    rw [hy, if_neg (by decide)]
    exact ⟨R, vl, vc, he, RefTo.same h hR hb⟩
theorem ref_drop (h : RelN N R) (hR : RS w R vl vc) (hi : NIv N) (i : Int) :
    Calls Try.prog 77 #[.agg (rv R vl vc), .int .i64 i] w fun e w' => ∃ R' vl' vc' q, e = .returned (.tuple #[.agg (rv R' vl' vc'), q, .bool (anyY N)]) ∧ RefTo (dropX N i) R R' vl' vc' w w' := by
  unfold anyY dropX
  have hl := h.len
  by_cases h0 : 0 < N.way.length
  · rw [decide_eq_true h0, if_pos h0]
    refine (rdrop13_ok hR i (by omega) (by have := hi.1; omega) _ rfl).mono ?_
    rintro e w' ⟨vl', he, hr, hb⟩
    refine ⟨_, vl', vc, _, he, ?_, hr, Nat.le_succ _, hb⟩
    rw [hl]
    exact rel_drop h _
  · rw [decide_eq_false h0, if_neg h0]
    refine (rdrop13_no hR i (by omega)).mono ?_
    rintro e w' ⟨he, hb⟩
    exact ⟨R, vl, vc, _, he, RefTo.same h hR hb⟩
theorem way_get (h : RelN N R) (i : Int) (h0 : 0 < N.way.length) (h1 : 0 < R.l.length) : N.way[atI i N.way.length]'(atI_lt i h0) = pclOf (R.l[atI i R.l.length]'(atI_lt i h1)) := by
  have hl := h.len
  have h2 := rel_at h (k := atI i N.way.length) (atI_lt i h0) (by rw [hl]; exact atI_lt i h1)
  rw [h2]
  simp only [hl]
theorem str_bounds (h : RelN N R) (hi : NIv N) {k : Nat} (hk : k < R.l.length) : 4 ≤ R.l[k].s.size ∧ R.l[k].s.size ≤ 10000 := by
  have h2 : pclOf R.l[k] ∈ N.way := by
    rw [h.2.1]
    exact List.mem_map_of_mem (List.getElem_mem hk)
  have := hi.2 _ h2
  rw [size_list]
  exact this
theorem ref_deliver (h : RelN N R) (hR : RS w R vl vc) (hi : NIv N) (i : Int) :
    Calls Try.prog 76 #[.agg (rv R vl vc), .int .i64 i] w fun e w' => ∃ R' vl' vc', e = .returned (.tuple #[.agg (rv R' vl' vc'), .agg (dvM N i).1.cells, .bool (dvM N i).2]) ∧ RefTo (dropX N i) R R' vl' vc' w w' := by
  unfold dropX
  have hl := h.len
  by_cases h0 : 0 < N.way.length
  · have h1 : 0 < R.l.length := by omega
    have hg := way_get h i h0 h1
    obtain ⟨q, hq⟩ : ∃ q, q = R.l[atI i R.l.length]'(atI_lt i h1) := ⟨_, rfl⟩
    have hqb := str_bounds h hi (atI_lt i h1)
    rw [← hq] at hg hqb
    rw [if_pos h0]
    by_cases hc : lnk q.a q.b ∈ R.c
    · have hd : dvM N i = (msg0, false) := by
        unfold dvM
        rw [dif_pos h0, if_pos]
        rw [hg, h.2.2]
        exact decide_eq_true hc
      rw [hd]
      refine (rdeliver_cut hR i h1 (by have := hi.1; omega) q hq hc).mono ?_
      rintro e w' ⟨vl', he, hr, hb⟩
      refine ⟨_, vl', vc, he, ?_, hr, Nat.le_succ _, hb⟩
      rw [hl]
      exact rel_drop h _
    · have hd : dvM N i = (decMsg q.s.data.toList, decErr q.s.data.toList == 0) := by
        unfold dvM
        rw [dif_pos h0, if_neg]
        · rw [hg]
          rfl
        · rw [hg, h.2.2]
          exact fun e => hc (of_decide_eq_true e)
      rw [hd]
      refine (rdeliver_ok hR i h1 (by have := hi.1; omega) q hq hc (decMsg q.s.data.toList) (decErr q.s.data.toList) (decMsg_spec _) hqb.1 (by omega)).mono ?_
      rintro e w' ⟨vl', he, hr, hb⟩
      refine ⟨_, vl', vc, he, ?_, hr, Nat.le_succ _, hb⟩
      rw [hl]
      exact rel_drop h _
  · have hd : dvM N i = (msg0, false) := by
      unfold dvM
      rw [dif_neg h0]
    rw [hd, if_neg h0]
    refine (rdeliver_no hR i (by omega)).mono ?_
    rintro e w' ⟨he, hb⟩
    exact ⟨R, vl, vc, he, RefTo.same h hR hb⟩
theorem ref_double (h : RelN N R) (hR : RS w R vl vc) (hi : NIv N) (i : Int) :
    Calls Try.prog 78 #[.agg (rv R vl vc), .int .i64 i] w fun e w' => ∃ R' vl' vc', e = .returned (.tuple #[.agg (rv R' vl' vc'), .bool (doubY N)]) ∧ RefTo (doubX N i) R R' vl' vc' w w' := by
  unfold doubY doubX
  have hl := h.len
  by_cases h0 : 0 < N.way.length ∧ N.way.length < 1024
  · have h1 : 0 < R.l.length := by omega
    rw [decide_eq_true h0, dif_pos h0]
    refine (rdouble_ok hR i h1 (by omega) _ rfl).mono ?_
    rintro e w' ⟨vl', he, hr, hb⟩
    refine ⟨_, vl', vc, he, ?_, hr, Nat.le_succ _, hb⟩
    have h2 := rel_doub h (k := atI i N.way.length) (atI_lt i h0.1) (by rw [hl]; exact atI_lt i h1)
    simp only [hl] at h2 ⊢
    exact h2
  · rw [decide_eq_false h0, dif_neg h0]
    refine (rdouble_no hR i (by omega) (by have := hi.1; omega)).mono ?_
    rintro e w' ⟨he, hb⟩
    exact ⟨R, vl, vc, he, RefTo.same h hR hb⟩
theorem ref_spoil (h : RelN N R) (hR : RS w R vl vc) (hi : NIv N) (i a y : Int) :
    Calls Try.prog 79 #[.agg (rv R vl vc), .int .i64 i, .int .i64 a, .int .i64 y] w fun e w' => ∃ R' vl' vc', e = .returned (.tuple #[.agg (rv R' vl' vc'), .bool (anyY N)]) ∧ RefTo (spoiX N i a y) R R' vl' vc' w w' := by
  unfold anyY spoiX
  have hl := h.len
  by_cases h0 : 0 < N.way.length
  · have h1 : 0 < R.l.length := by omega
    have hqb := str_bounds h hi (atI_lt i h1)
    rw [decide_eq_true h0, dif_pos h0]
    refine (rspoil_ok hR i a y h1 (by have := hi.1; omega) _ rfl (by omega) (by omega)).mono ?_
    rintro e w' ⟨vl', he, hr, hb⟩
    refine ⟨_, vl', vc, he, ?_, hr, Nat.le_succ _, hb⟩
    have h2 := rel_spoil h (k := atI i N.way.length) (atI_lt i h0) (by rw [hl]; exact atI_lt i h1) a y
    simp only [hl] at h2 ⊢
    exact h2
  · rw [decide_eq_false h0, dif_neg h0]
    refine (rspoil_no hR i a y (by omega)).mono ?_
    rintro e w' ⟨he, hb⟩
    exact ⟨R, vl, vc, he, RefTo.same h hR hb⟩
theorem ref_cut (h : RelN N R) (hR : RS w R vl vc) (hc : R.c.length ≤ 1000) (a b : Int) (on : Bool) (hlen : (cuR R a b on).c.length ≤ R.c.length + 1) :
    Calls Try.prog 81 #[.agg (rv R vl vc), .int .i64 a, .int .i64 b, .bool on] w fun e w' => ∃ R' vl' vc', e = .returned (.tuple #[.agg (rv R' vl' vc'), .bool (cutY N a b)]) ∧ RefTo (cutX N a b on) R R' vl' vc' w w' := by
  unfold cutX
  by_cases h0 : nodeP N a ∧ nodeP N b
  · have hy : cutY N a b = true := decide_eq_true h0
    rw [hy, if_pos rfl]
    refine (rcut81_ok hR (by omega) a b on ((rel_node h a).1 h0.1) ((rel_node h b).1 h0.2)).mono ?_
    rintro e w' ⟨vc', he, hr, hb⟩
    exact ⟨_, vl, vc', he, rel_cut h a b on, hr, hlen, hb⟩
  · have hy : cutY N a b = false := decide_eq_false h0
    rw [hy, if_neg (by decide)]
    refine (rcut81_no hR a b on (fun hh => h0 ⟨(rel_node h a).2 hh.1, (rel_node h b).2 hh.2⟩)).mono ?_
    rintro e w' ⟨he, hb⟩
    exact ⟨R, vl, vc, he, RefTo.same h hR hb⟩
end
end Go.Proofs.Ytljmaicobafgkaa
end
