/- A join of 1 texts of this claim: ImW2. Conditions: none of their own. -/
import Derived.Test.YtljmaicobafgkaaK17
import Derived.OpenShut
section
/- Chapter 25, imap: the walk of ImapOnce. -/
namespace Go.Proofs.Ytljmaicobafgkaa
open Go.RowKit

section
open Go.Joins Go.ChangeShapes Go.WideShapes Go.Deep
variable {H : Type} {enc : TypeId × Value → H} {w : World} {base : Nat} {spare : Nat → Bool} {held : Bool}
def twoCells (t : Spot × Spot) : Array Value := #[.int .i64 t.1.seg, .int .i64 t.1.frm, .int .i64 t.1.len, .int .i64 t.1.ver, .int .i64 t.2.seg, .int .i64 t.2.frm, .int .i64 t.2.len, .int .i64 t.2.ver]
set_option maxRecDepth 100000 in
theorem open_two {r : Reach} {b0 : Nat} {v : Value} {d : DataW H} {p : List MemPlace} (hv : Value.okWide Try.prog w r b0 55 v) (h : DataW.Trod enc Try.prog w base spare held 55 v d p) :
    ∃ t : Spot × Spot, v = .agg (twoCells t) ∧ True := by
  simp only [Value.okWide, Try.underlying55] at hv
  obtain ⟨cs, rfl, _⟩ := hv
  obtain ⟨fuel, hf⟩ := h
  obtain ⟨xs, m, _, _, hlen, hxl, hg⟩ := DataW.trod_array Try.underlying55 hf
  rw [show Try.prog.cellsOf 55 = 8 from by kernel_rfl] at hlen
  rw [show Try.prog.cellsOf 27 = 4 from by kernel_rfl] at hg
  obtain ⟨l⟩ := cs
  simp only [Value.cells] at hlen hg
  match l, hlen with
  | [c0, c1, c2, c3, c4, c5, c6, c7], _ =>
    match xs, hxl with
    | [y0, y1], _ =>
      have h0 := hg 0 (by decide)
      have h1 := hg 1 (by decide)
      simp only [Nat.zero_mul, Nat.one_mul, List.drop_zero, List.drop_succ_cons, List.take_succ_cons, List.take_zero, List.getElem?_cons_zero, List.getElem?_cons_succ] at h0 h1
      obtain ⟨s, es, _⟩ := trod_spot h0
      obtain ⟨u, eu, _⟩ := trod_spot h1
      simp only [List.cons.injEq, and_true] at es eu
      obtain ⟨e0, e1, e2, e3⟩ := es
      obtain ⟨f0, f1, f2, f3⟩ := eu
      subst e0 e1 e2 e3 f0 f1 f2 f3
      exact ⟨(s, u), rfl, trivial⟩
end
/-- A map after c deeds. -/
def MokN (M : Nat → Spot) (c : Int) : Prop := (M 0).ver = 0 ∧ ∀ i, i < 256 → 0 ≤ (M i).ver ∧ (M i).ver ≤ c ∧ (M i).ok
theorem MokN.ok {M : Nat → Spot} {c : Int} (h : MokN M c) (hc : c ≤ 1099511627776) : Mok M := ⟨h.1, fun i hi => ⟨(h.2 i hi).1, by have := (h.2 i hi).2.1; omega, (h.2 i hi).2.2⟩⟩
theorem mokN_zero : MokN z25 0 := ⟨rfl, fun _ _ => by
  show 0 ≤ noSpot.ver ∧ noSpot.ver ≤ 0 ∧ noSpot.ok
  decide⟩
theorem MokN.more {M : Nat → Spot} {c c' : Int} (h : MokN M c) (hc : c ≤ c') : MokN M c' := ⟨h.1, fun i hi => ⟨(h.2 i hi).1, by have := (h.2 i hi).2.1; omega, (h.2 i hi).2.2⟩⟩
theorem MokN.move {M : Nat → Spot} {c : Int} (h : MokN M c) (i v : Int) (x : Spot) : MokN (mvOut M i v x).1 (c + 1) := by
  unfold mvOut
  by_cases h0 : ¬ (mayI i ∧ x.ok)
  · rw [if_pos h0]
    exact h.more (by omega)
  · rw [if_neg h0]
    by_cases h1 : (M i.toNat).ver ≠ v
    · rw [if_pos h1]
      exact h.more (by omega)
    · rw [if_neg h1]
      have h0' : mayI i ∧ x.ok := by
        by_cases hc : mayI i ∧ x.ok
        · exact hc
        · exact absurd hc h0
      have h1' : (M i.toNat).ver = v := by
        by_cases hc : (M i.toNat).ver = v
        · exact hc
        · exact absurd hc h1
      obtain ⟨⟨i0, i1⟩, hx⟩ := h0'
      have hi := h.2 i.toNat (by omega)
      refine ⟨?_, fun j hj => ?_⟩
      · show (upd M i.toNat _ 0).ver = 0
        rw [upd_other _ _ (by omega)]
        exact h.1
      · show 0 ≤ (upd M i.toNat _ j).ver ∧ (upd M i.toNat _ j).ver ≤ c + 1 ∧ (upd M i.toNat _ j).ok
        by_cases e : j = i.toNat
        · subst e
          rw [upd_same]
          exact ⟨by simp only; omega, by simp only; omega, hx⟩
        · rw [upd_other _ _ e]
          have := h.2 j hj
          exact ⟨this.1, by omega, this.2.2⟩
theorem MokN.drop {M : Nat → Spot} {c : Int} (h : MokN M c) (hc : 0 ≤ c) (i v : Int) : MokN (dpOut M i v).1 c := by
  unfold dpOut
  by_cases h0 : ¬ mayI i
  · rw [if_pos h0]
    exact h
  · rw [if_neg h0]
    by_cases h1 : (M i.toNat).ver = 0
    · rw [if_pos h1]
      exact h
    · rw [if_neg h1]
      by_cases h2 : (M i.toNat).ver = v
      · rw [if_pos h2]
        refine ⟨?_, fun j hj => ?_⟩
        · show (upd M i.toNat noSpot 0).ver = 0
          by_cases e : (0 : Nat) = i.toNat
          · rw [← e, upd_same]
            rfl
          · rw [upd_other _ _ e]
            exact h.1
        · show 0 ≤ (upd M i.toNat noSpot j).ver ∧ (upd M i.toNat noSpot j).ver ≤ c ∧ (upd M i.toNat noSpot j).ok
          by_cases e : j = i.toNat
          · subst e
            rw [upd_same]
            exact ⟨by decide, hc, by decide⟩
          · rw [upd_other _ _ e]
            exact h.2 j hj
      · rw [if_neg h2]
        exact h
def ImS (w0 : World) (g n : Nat) (w : World) (iv : Value) : Prop := ∃ (k : Nat) (M : Nat → Spot), iv = .int .i64 k ∧ k ≤ n ∧ IM w g M ∧ MokN M k ∧ Below w0.heap.size w0 w
set_option maxHeartbeats 8000000 in
set_option maxRecDepth 1000000 in
theorem walk_imapOnce (v : Value) (l : List Deed) (inode : Int) (t : Spot × Spot) (w : World) (h : DeedArg w v l) (_hwf : ∀ x ∈ l, x.wf) (_hi : (Lit.int .i64 inode).wf = true) (_ht : True) :
    Calls Try.prog 4 #[v, .int .i64 inode, .agg (twoCells t)] w fun e w' => e = .returned (.bool true) ∧ Below w.heap.size w w' := by
  have hlen : l.length ≤ 9223372036854775807 := Nat.le_trans h.len (by decide)
  obtain ⟨A, c, hv⟩ := h.slice
  subst hv
  have hbx : Below w.heap.size w (w.alloc (.cells (twoCells t) 55)) := (Below.refl _ _).alloc (Nat.le_refl _) _
  have HD := hide h
  have HT := hide (obj_new w (.cells (twoCells t) 55))
  have HB0 := hide hbx
  have hsz0 : (w.alloc (.cells (twoCells t) 55)).heap.size = w.heap.size + 1 := by simp
  obtain ⟨s0, s1⟩ := t
  simp only [twoCells] at HT HB0 hsz0 ⊢
  clear h hbx
  rcases Nat.lt_or_ge 60 l.length with h60 | h60
  · have h60' : (60 : Int) < (l.length : Int) := by omega
    go_enter Try.func4, Try.ntmps4
    go_wp2_with fail
    refine (awake25 _).mono ?_
    rintro e w1 ⟨rfl, hb1⟩
    go_wp2
    go_ret
    exact ⟨rfl, HB0.out.trans (hb1.mono HB0.out.size)⟩
  · have h60' : ¬ (60 : Int) < (l.length : Int) := by omega
    go_enter Try.func4, Try.ntmps4
    go_wp2_with fail
    refine (new25_any _).mono ?_
    rintro e w1 ⟨rfl, hm1, hb1⟩
    obtain ⟨g, hg⟩ : ∃ g, g = (w.alloc (.cells #[.int .i64 s0.seg, .int .i64 s0.frm, .int .i64 s0.len, .int .i64 s0.ver, .int .i64 s1.seg, .int .i64 s1.frm, .int .i64 s1.len, .int .i64 s1.ver] 55)).heap.size := ⟨_, rfl⟩
    have hgw : g = w.heap.size + 1 := by rw [hg, hsz0]
    rw [← hg] at hm1 ⊢
    have HT1 := hide (obj_below HT.out hb1)
    have HB1 := hide (HB0.out.trans (hb1.mono HB0.out.size))
    have HST : Hid (ImS w g l.length w1 (.int .i64 0)) := hide ⟨0, z25, rfl, Nat.zero_le _, hm1, mokN_zero, HB1.out⟩
    have HGW := hide hgw
    clear hm1 hb1 hg hgw hsz0 HT HB0
    go_wp2_with fail
    go_loopw [8] (fun iv wr => ImS w g l.length wr iv ∧ wr.heap[w.heap.size]? = some (.cells #[.int .i64 s0.seg, .int .i64 s0.frm, .int .i64 s0.len, .int .i64 s0.ver, .int .i64 s1.seg, .int .i64 s1.frm, .int .i64 s1.len, .int .i64 s1.ver] 55 (0, 0))) (fun iv _ => l.length - (intOf iv).toNat)
    case atStart => exact ⟨HST.out, HT1.out⟩
    case round =>
      obtain ⟨⟨k, M, rfl, hk, hM, hok, hb⟩, hT⟩ := hrel
      have HM := hide hM
      have HOK := hide hok
      have HB := hide hb
      have HTT := hide hT
      clear hM hok hb hT
      rcases Nat.lt_or_ge k l.length with hkl | hkl
      · obtain ⟨a, cap, hv, hc1, hc2, c0, c1, c2, c3, c4, c5, c6, c7⟩ := (HD.out.below HB.out).cells hkl
        cases hv
        generalize l[k] = d at c0 c1 c2 c3 c4 c5 c6 c7
        clear c0 c7
        go_wp2_with fail
        refine wp_stl 16 (by kernel_rfl) (by kernel_rfl) ?_
        simp only [List.take_succ_cons, List.take_zero, List.drop_succ_cons, List.drop_zero]
        repeat still_step
        refine wpStill_nil ?_
        go_wp2_with fail
        refine (move_any g M d.inode d.ver d.sp wr.drew HM.out (HOK.out.ok (by omega))).mono ?_
        rintro e w3 ⟨rfl, hm3, hf3⟩
        have HST2 : Hid (ImS w g l.length w3 (.int .i64 ((k + 1 : Nat) : Int))) := hide ⟨k + 1, _, rfl, hkl, hm3, HOK.out.move _ _ _, HB.out.drew.trans (hf3.below _ HB.out.size (fun q hq e => by have := HGW.out; omega))⟩
        have HT3 := hide (hf3.obj (a := wr.drew) HTT.out (by have := HGW.out; omega))
        clear hm3 hf3
        go_wp2
        go_roundw
        case rel => exact ⟨HST2.out, HT3.out⟩
        case measure => simp [intOf]; omega
      · obtain rfl : k = l.length := by omega
        have hne : ¬ w.heap.size = g := by have := HGW.out; omega
        go_wp2_with fail
        refine (get_any g M inode _ HM.out).mono ?_
        rintro e w3 ⟨rfl, hb3⟩
        obtain ⟨q, hq⟩ : ∃ q, q = (gtOut M inode).1 := ⟨_, rfl⟩
        rw [← hq]
        have hbx := hb3.alloc hb3.size (.cells #[.int .i64 q.seg, .int .i64 q.frm, .int .i64 q.len, .int .i64 q.ver] 27)
        have HM3 := hide (HM.out.below hbx)
        have HB3 := hide (HB.out.trans (hbx.mono HB.out.size))
        have HT3 := hide (obj_below HTT.out hbx)
        have HQ3 := hide (obj_new w3 (.cells #[.int .i64 q.seg, .int .i64 q.frm, .int .i64 q.len, .int .i64 q.ver] 27))
        have hg3 : ¬ w3.heap.size = g := by have := HM.out.lt; have := hb3.size; omega
        have a0 := obj_cell HT3.out 0
        have a1 := obj_cell HT3.out 1
        have a2 := obj_cell HT3.out 2
        have a3 := obj_cell HT3.out 3
        have q3 := obj_cell HQ3.out 3
        simp only [List.getElem?_toArray, List.getElem?_cons_zero, List.getElem?_cons_succ] at a0 a1 a2 a3 q3
        have HQ := hide hq
        generalize (gtOut M inode).2 = gb
        clear hb3 hbx hq
        go_wp2_with fail
        refine (move_any g M inode q.ver s0 _ HM3.out (HOK.out.ok (by omega))).mono ?_
        rintro e w4 ⟨he, hm4, hf4⟩
        have HB4 := hide (HB3.out.trans (hf4.below _ HB3.out.size (fun q hq e => by have := HGW.out; omega)))
        have HT4 := hide (hf4.obj HT3.out hne)
        have HQ4 := hide (hf4.obj HQ3.out hg3)
        clear hf4 a0 a1 a2 a3 q3 HT3 HQ3 HTT
        by_cases hmv : mayI inode ∧ s0.ok
        · obtain ⟨j, rfl⟩ : ∃ j : Nat, inode = j := ⟨inode.toNat, by have := hmv.1.1; omega⟩
          have hj : j < 256 := by have := hmv.1.2; omega
          have hj1 : 1 ≤ j := by have := hmv.1.1; omega
          have hver := HOK.out.2 j hj
          have hqv : q.ver = (M j).ver := by
            rw [HQ.out]
            unfold gtOut
            rw [Int.toNat_natCast]
            by_cases h0 : (M j).ver = 0
            · rw [if_pos (.inr h0), h0]
              rfl
            · rw [if_neg (by simp [hmv.1, h0])]
          obtain ⟨u, hu⟩ : ∃ u : Int, u = q.ver + 1 := ⟨_, rfl⟩
          obtain ⟨y, hy⟩ : ∃ y : Spot, y = ⟨s0.seg, s0.frm, s0.len, u⟩ := ⟨_, rfl⟩
          have hmo : mvOut M j q.ver s0 = (upd M j y, u, 0) := by
            unfold mvOut
            rw [if_neg (by simp [hmv.1, hmv.2]), Int.toNat_natCast, if_neg (by simp [hqv]), hy, hu]
          rw [hmo] at he hm4
          subst he
          have HOK4 : Hid (Mok (upd M j y)) := hide (by
            have h := HOK.out.move j q.ver s0
            rw [hmo] at h
            exact h.ok (by omega))
          have HM4 := hide hm4
          have hgt : gtOut (upd M j y) j = (y, true) := by
            unfold gtOut
            rw [Int.toNat_natCast, upd_same, if_neg (by
              rintro (h | h)
              · exact h hmv.1
              · rw [hy] at h
                simp only at h
                omega)]
          have hm2 : mvOut (upd M j y) j q.ver s1 = (upd M j y, 0, if s1.ok then 10 else 1) := by
            unfold mvOut
            by_cases h1 : s1.ok
            · rw [if_neg (by simp [hmv.1, h1]), Int.toNat_natCast, upd_same, if_pos (by rw [hy]; simp only; omega), if_pos h1]
            · rw [if_pos (by simp [h1]), if_neg h1]
          have HYV : Hid (y.ver = u) := hide (by rw [hy])
          have hqu : q.ver + 1 = u := hu.symm
          have hq0 : 0 ≤ q.ver := by rw [hqv]; exact hver.1
          have hq1 : q.ver ≤ 60 := by rw [hqv]; have := hver.2.1; omega
          clear hm4 hmo hmv hy hqv HM3 HM hu
          go_wp2_with fail
          refine (get_any g _ j _ HM4.out).mono ?_
          rintro e w5 ⟨he, hb5⟩
          rw [hgt] at he
          subst he
          rw [HYV.out]
          have hbx := hb5.alloc hb5.size (.cells #[.int .i64 y.seg, .int .i64 y.frm, .int .i64 y.len, .int .i64 u] 27)
          have HM5 := hide (HM4.out.below hbx)
          have HB5 := hide (HB4.out.trans (hbx.mono HB4.out.size))
          have HT5 := hide (obj_below HT4.out hbx)
          have HQ5 := hide (obj_below HQ4.out hbx)
          have HY5 := hide (obj_new w5 (.cells #[.int .i64 y.seg, .int .i64 y.frm, .int .i64 y.len, .int .i64 u] 27))
          have hg5 : ¬ w5.heap.size = g := by have := HM4.out.lt; have := hb5.size; omega
          have a4 := obj_cell HT5.out 4
          have a5 := obj_cell HT5.out 5
          have a6 := obj_cell HT5.out 6
          have a7 := obj_cell HT5.out 7
          have q3 := obj_cell HQ5.out 3
          simp only [List.getElem?_toArray, List.getElem?_cons_zero, List.getElem?_cons_succ] at a4 a5 a6 a7 q3
          clear hb5 hbx HT4 HQ4
          go_wp2_with fail
          refine (move_any g _ j q.ver s1 _ HM5.out HOK4.out).mono ?_
          rintro e w6 ⟨he, hm6, hf6⟩
          rw [hm2] at he hm6
          subst he
          have HM6 := hide hm6
          have HB6 := hide (HB5.out.trans (hf6.below _ HB5.out.size (fun q hq e => by have := HGW.out; omega)))
          have HQ6 := hide (hf6.obj HQ5.out hg3)
          have HY6 := hide (hf6.obj HY5.out hg5)
          clear hm6 hf6 a4 a5 a6 a7 q3 HT5
          obtain ⟨ec, hec, hec0⟩ : ∃ ec : Int, (if s1.ok then (10 : Int) else 1) = ec ∧ ec ≠ 0 := by
            by_cases h : s1.ok
            · exact ⟨10, if_pos h, by decide⟩
            · exact ⟨1, if_neg h, by decide⟩
          rw [hec]
          have hec' : (ec != 0) = true := by simp [hec0]
          clear hec
          go_wp2_with fail
          refine (get_any g _ j _ HM6.out).mono ?_
          rintro e w7 ⟨he, hb7⟩
          rw [hgt] at he
          subst he
          rw [HYV.out]
          have hbx := hb7.alloc hb7.size (.cells #[.int .i64 y.seg, .int .i64 y.frm, .int .i64 y.len, .int .i64 u] 27)
          have HB7 := hide (HB6.out.trans (hbx.mono HB6.out.size))
          have HQ7 := hide (obj_below HQ6.out hbx)
          have HY7 := hide (obj_below HY6.out hbx)
          have HZ7 := hide (obj_new w7 (.cells #[.int .i64 y.seg, .int .i64 y.frm, .int .i64 y.len, .int .i64 u] 27))
          have q3 := obj_cell HQ7.out 3
          have y0 := obj_cell HY7.out 0
          have y1 := obj_cell HY7.out 1
          have y2 := obj_cell HY7.out 2
          have y3 := obj_cell HY7.out 3
          have z0 := obj_cell HZ7.out 0
          have z1 := obj_cell HZ7.out 1
          have z2 := obj_cell HZ7.out 2
          have z3 := obj_cell HZ7.out 3
          simp only [List.getElem?_toArray, List.getElem?_cons_zero, List.getElem?_cons_succ] at q3 y0 y1 y2 y3 z0 z1 z2 z3
          clear hb7 hbx hgt hm2
          go_wp2_with fail
          refine (awake25 _).mono ?_
          rintro e w8 ⟨rfl, hb8⟩
          go_wp2
          go_ret
          exact ⟨rfl, HB7.out.trans (hb8.mono HB7.out.size)⟩
        · have hmo : mvOut M inode q.ver s0 = (M, 0, 1) := if_pos hmv
          rw [hmo] at he
          subst he
          clear hmo hmv hm4
          go_wp2_with fail
          refine (awake25 _).mono ?_
          rintro e w5 ⟨rfl, hb5⟩
          go_wp2
          go_ret
          exact ⟨rfl, HB4.out.trans (hb5.mono HB4.out.size)⟩
end Go.Proofs.Ytljmaicobafgkaa
end
