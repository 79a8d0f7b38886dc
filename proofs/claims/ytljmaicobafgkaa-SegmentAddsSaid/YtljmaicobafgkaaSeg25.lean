/- Chapter 31, segment: the reference's Add, over pieces; its refusals. -/
import Derived.Test.YtljmaicobafgkaaSeg23
import Derived.Test.YtljmaicobafgkaaSeg24
namespace Go.Proofs.Ytljmaicobafgkaa
open Go.RowKit

/-- Both results stored. -/
theorem ra_fin {W : World} {n : Nat} {a0 a1 a2 b0 b1 b2 b3 b4 : Value} (h1 : W.heap[n + 1]? = some (.cells #[a0, a1, a2] 86 (0, 0))) (h2 : W.heap[n + 1 + 1]? = some (.cells #[b0, b1, b2, b3, b4] 89 (0, 0))) (u0 u1 u2 v0 v1 v2 v3 v4 : Value) :
    let W8 := ((((((((W.setCell ⟨n + 1, 0, none⟩ u0).setCell ⟨n + 1, 1, none⟩ u1).setCell ⟨n + 1, 2, none⟩ u2).setCell ⟨n + 1 + 1, 0, none⟩ v0).setCell ⟨n + 1 + 1, 1, none⟩ v1).setCell ⟨n + 1 + 1, 2, none⟩ v2).setCell ⟨n + 1 + 1, 3, none⟩ v3).setCell ⟨n + 1 + 1, 4, none⟩ v4)
    W8.heap[n + 1]? = some (.cells #[u0, u1, u2] 86 (0, 0)) ∧ W8.heap[n + 1 + 1]? = some (.cells #[v0, v1, v2, v3, v4] 89 (0, 0)) ∧ Fr (fun k => k = n + 1 ∨ k = n + 1 + 1) W W8 := by
  intro W8
  have hF3 : Fr (· = n + 1) W (((W.setCell ⟨n + 1, 0, none⟩ u0).setCell ⟨n + 1, 1, none⟩ u1).setCell ⟨n + 1, 2, none⟩ u2) :=
    (((Fr.refl (· = n + 1) W).setCell (p := ⟨n + 1, 0, none⟩) (fun _ => rfl) _).setCell (p := ⟨n + 1, 1, none⟩) (fun _ => rfl) _).setCell (p := ⟨n + 1, 2, none⟩) (fun _ => rfl) _
  have hT3 := three_setT h1 u0 u1 u2
  have hR11 := hF3.obj h2 (by omega)
  have hF5 : Fr (· = n + 1 + 1) (((W.setCell ⟨n + 1, 0, none⟩ u0).setCell ⟨n + 1, 1, none⟩ u1).setCell ⟨n + 1, 2, none⟩ u2) W8 := five_fr (F := (· = n + 1 + 1)) (Fr.refl _ _) (fun _ => rfl)
  exact ⟨hF5.obj hT3 (by omega), five_setT hR11 _ _ _ _ _, (hF3.mono (fun k _ h => .inl h)).trans (hF5.mono (fun k _ h => .inr h)) (fun _ _ h => h)⟩
def raOut (B : Nat) (size : Int) (l : List Pc) (lv : Value) (x : Pc) (w : World) (e : Ending) (w' : World) : Prop :=
  ∃ lv', e = .returned (.tuple #[.agg (rsC size ⟨(pcText (addL size l x)).toArray⟩ lv'), entV (addE size l x), .int .i64 (addC size l x)]) ∧ OwE w' B lv' (entsAt 0 (addL size l x)) ∧ (∀ j, lv'.ownBlock = some j → lv.ownBlock = some j ∨ (w.heap.size ≤ j ∧ addL size l x ≠ [])) ∧ Below w.heap.size w w'
set_option maxHeartbeats 4000000 in
set_option maxRecDepth 1000000 in
theorem radd_arg (size : Int) (t : List UInt8) (l : List Ent) (lv : Value) (B : Nat) (k i b : Int) (body : ByteArray) (w : World) (he : OwE w B lv l) (hm : ¬ mayE k i b) :
    Calls Try.prog 55 #[.agg (rsC size ⟨t.toArray⟩ lv), .int .i64 k, .int .i64 i, .int .i64 b, .string body] w fun e w' => e = .returned (.tuple #[.agg (rsC size ⟨t.toArray⟩ lv), entV Pc.zero, .int .i64 1]) ∧ Below w.heap.size w w' := by
  obtain ⟨A, c, rfl⟩ := row_slice he
  have HM := hide (decide_eq_false hm)
  clear he hm
  unfold rsC
  go_enter Try.func55, Try.ntmps55
  go_wp2_with fail
  refine (rMay_any k i b _).mono ?_
  rintro e w1 ⟨rfl, hb1⟩
  rw [HM.out]
  have hb1z := hb1.size
  simp only [World.size_alloc] at hb1z
  have BOX := hide (obj_below (obj_alloc (obj_alloc (obj_new w (.cells #[.int .i64 size, .string ⟨t.toArray⟩, .slice A l.length c] 86)) (.cells #[.int .i64 0, .string ⟨#[]⟩, .slice none 0 0] 86)) (.cells #[.int .i64 0, .int .i64 0, .int .i64 0, .int .i64 0, .int .i64 0] 89)) hb1)
  have T10 := hide (obj_below (obj_alloc (obj_new (w.alloc (.cells #[.int .i64 size, .string ⟨t.toArray⟩, .slice A l.length c] 86)) (.cells #[.int .i64 0, .string ⟨#[]⟩, .slice none 0 0] 86)) (.cells #[.int .i64 0, .int .i64 0, .int .i64 0, .int .i64 0, .int .i64 0] 89)) hb1)
  have T11 := hide (obj_below (obj_new ((w.alloc (.cells #[.int .i64 size, .string ⟨t.toArray⟩, .slice A l.length c] 86)).alloc (.cells #[.int .i64 0, .string ⟨#[]⟩, .slice none 0 0] 86)) (.cells #[.int .i64 0, .int .i64 0, .int .i64 0, .int .i64 0, .int .i64 0] 89)) hb1)
  simp only [World.size_alloc] at T10 T11
  have HB1 := hide (below_step (((Below.refl w.heap.size w).alloc (Nat.le_refl _) (.cells #[.int .i64 size, .string ⟨t.toArray⟩, .slice A l.length c] 86)).alloc (by simp) (.cells #[.int .i64 0, .string ⟨#[]⟩, .slice none 0 0] 86)) (by simp; omega) hb1)
  have b0 := obj_cell BOX.out 0
  have b1 := obj_cell BOX.out 1
  have b2 := obj_cell BOX.out 2
  have r0 := obj_cell T10.out 0
  have r1 := obj_cell T10.out 1
  have r2 := obj_cell T10.out 2
  have s0 := obj_cell T11.out 0
  have s1 := obj_cell T11.out 1
  have s2 := obj_cell T11.out 2
  have s3 := obj_cell T11.out 3
  have s4 := obj_cell T11.out 4
  have fr0 := obj_frozen T10.out 0
  have fr1 := obj_frozen T10.out 1
  have fr2 := obj_frozen T10.out 2
  have fs0 := obj_frozen T11.out 0
  have fs1 := obj_frozen T11.out 1
  have fs2 := obj_frozen T11.out 2
  have fs3 := obj_frozen T11.out 3
  have fs4 := obj_frozen T11.out 4
  simp only [List.getElem?_toArray, List.getElem?_cons_zero, List.getElem?_cons_succ] at b0 b1 b2 r0 r1 r2 s0 s1 s2 s3 s4
  clear hb1
  go_wp2
  have hfin := ra_fin T10.out T11.out (.int .i64 size) (.string ⟨t.toArray⟩) (.slice A l.length c) (.int .i64 0) (.int .i64 0) (.int .i64 0) (.int .i64 0) (.int .i64 0)
  exact bodyPost_ret (res_cct rfl _ _ (w.heap.size + 1) (w.heap.size + 1 + 1) 86 89 _ _ _ _ _ _ rfl hfin.1 Try.underlying86 rfl (by kernel_rfl) rfl hfin.2.1 Try.underlying89 rfl (by kernel_rfl)) rfl ⟨rfl, HB1.out.trans (hfin.2.2.below _ HB1.out.size (fun i hi e => by omega))⟩
set_option maxHeartbeats 4000000 in
set_option maxRecDepth 1000000 in
theorem radd_full (size : Int) (t : List UInt8) (l : List Ent) (lv : Value) (B : Nat) (k i b : Int) (body : ByteArray) (w : World) (he : OwE w B lv l) (h0 : 0 ≤ size) (h1 : size ≤ 65536) (ht : t.length ≤ 1048576) (hn : l.length ≤ 90000) (hbz : body.size ≤ 9223372036854775807)
    (hm : mayE k i b) (hf : leftOf size t.length l.length < (body.size : Int)) :
    Calls Try.prog 55 #[.agg (rsC size ⟨t.toArray⟩ lv), .int .i64 k, .int .i64 i, .int .i64 b, .string body] w fun e w' => e = .returned (.tuple #[.agg (rsC size ⟨t.toArray⟩ lv), entV Pc.zero, .int .i64 5]) ∧ Below w.heap.size w w' := by
  obtain ⟨A, c, rfl⟩ := row_slice he
  have HM := hide (decide_eq_true hm)
  have hlo : leftOf size t.length l.length = size - t.length - (9 + 28 * (l.length + 1)) := by
    unfold leftOf over
    rw [if_neg (by omega), show min ((l.length : Int) + 1) 100000 = (l.length : Int) + 1 from by omega]
  rw [hlo] at hf
  clear hlo he hm
  unfold rsC
  go_enter Try.func55, Try.ntmps55
  go_wp2_with fail
  refine (rMay_any k i b _).mono ?_
  rintro e w1 ⟨rfl, hb1⟩
  rw [HM.out]
  have hb1z := hb1.size
  simp only [World.size_alloc] at hb1z
  have BOX := hide (obj_below (obj_alloc (obj_alloc (obj_new w (.cells #[.int .i64 size, .string ⟨t.toArray⟩, .slice A l.length c] 86)) (.cells #[.int .i64 0, .string ⟨#[]⟩, .slice none 0 0] 86)) (.cells #[.int .i64 0, .int .i64 0, .int .i64 0, .int .i64 0, .int .i64 0] 89)) hb1)
  have T10 := hide (obj_below (obj_alloc (obj_new (w.alloc (.cells #[.int .i64 size, .string ⟨t.toArray⟩, .slice A l.length c] 86)) (.cells #[.int .i64 0, .string ⟨#[]⟩, .slice none 0 0] 86)) (.cells #[.int .i64 0, .int .i64 0, .int .i64 0, .int .i64 0, .int .i64 0] 89)) hb1)
  have T11 := hide (obj_below (obj_new ((w.alloc (.cells #[.int .i64 size, .string ⟨t.toArray⟩, .slice A l.length c] 86)).alloc (.cells #[.int .i64 0, .string ⟨#[]⟩, .slice none 0 0] 86)) (.cells #[.int .i64 0, .int .i64 0, .int .i64 0, .int .i64 0, .int .i64 0] 89)) hb1)
  simp only [World.size_alloc] at T10 T11
  have HB1 := hide (below_step (((Below.refl w.heap.size w).alloc (Nat.le_refl _) (.cells #[.int .i64 size, .string ⟨t.toArray⟩, .slice A l.length c] 86)).alloc (by simp) (.cells #[.int .i64 0, .string ⟨#[]⟩, .slice none 0 0] 86)) (by simp; omega) hb1)
  have z0 := obj_cell BOX.out 0
  have z1 := obj_cell BOX.out 1
  have z2 := obj_cell BOX.out 2
  simp only [List.getElem?_toArray, List.getElem?_cons_zero, List.getElem?_cons_succ] at z0 z1 z2
  have hsz : (⟨t.toArray⟩ : ByteArray).size = t.length := rfl
  clear hb1
  go_wp2_with fail
  go_quiet (first | (go_at_call 126; refine Calls.quiet_of_same (rOver_same _ _ (by omega) (by omega))))
  have hbq := below_drewN (Below.refl w1.heap.size w1) nq
  generalize w1.drewN nq = wq at hbq ⊢
  have BOXQ := hide (obj_below BOX.out hbq)
  have T10Q := hide (obj_below T10.out hbq)
  have T11Q := hide (obj_below T11.out hbq)
  have HBQ := hide (HB1.out.trans (hbq.mono (by omega)))
  have b0 := obj_cell BOXQ.out 0
  have b1 := obj_cell BOXQ.out 1
  have b2 := obj_cell BOXQ.out 2
  have r0 := obj_cell T10Q.out 0
  have r1 := obj_cell T10Q.out 1
  have r2 := obj_cell T10Q.out 2
  have s0 := obj_cell T11Q.out 0
  have s1 := obj_cell T11Q.out 1
  have s2 := obj_cell T11Q.out 2
  have s3 := obj_cell T11Q.out 3
  have s4 := obj_cell T11Q.out 4
  have fr0 := obj_frozen T10Q.out 0
  have fr1 := obj_frozen T10Q.out 1
  have fr2 := obj_frozen T10Q.out 2
  have fs0 := obj_frozen T11Q.out 0
  have fs1 := obj_frozen T11Q.out 1
  have fs2 := obj_frozen T11Q.out 2
  have fs3 := obj_frozen T11Q.out 3
  have fs4 := obj_frozen T11Q.out 4
  simp only [List.getElem?_toArray, List.getElem?_cons_zero, List.getElem?_cons_succ] at b0 b1 b2 r0 r1 r2 s0 s1 s2 s3 s4
  clear z0 z1 z2 hbq
  go_wp2
  have hfin := ra_fin T10Q.out T11Q.out (.int .i64 size) (.string ⟨t.toArray⟩) (.slice A l.length c) (.int .i64 0) (.int .i64 0) (.int .i64 0) (.int .i64 0) (.int .i64 0)
  exact bodyPost_ret (res_cct rfl _ _ (w.heap.size + 1) (w.heap.size + 1 + 1) 86 89 _ _ _ _ _ _ rfl hfin.1 Try.underlying86 rfl (by kernel_rfl) rfl hfin.2.1 Try.underlying89 rfl (by kernel_rfl)) rfl ⟨rfl, HBQ.out.trans (hfin.2.2.below _ HBQ.out.size (fun i hi e => by omega))⟩
theorem raddP (size : Int) (l : List Pc) (lv : Value) (B : Nat) (x : Pc) (w : World) (he : OwE w B lv (entsAt 0 l)) (hB : B ≤ w.heap.size) (hi : SegInv size l) (h0 : 16 ≤ size) (h1 : size ≤ 65536) (hx : x.body.size ≤ 9223372036854775807) :
    Calls Try.prog 55 #[.agg (rsC size ⟨(pcText l).toArray⟩ lv), .int .i64 x.kind, .int .i64 x.inode, .int .i64 x.block, .string x.body] w (raOut B size l lv x w) := by
  have hb := hi.bounds h1
  have hel := entsAt_len 0 l
  by_cases hok : addOk size l x
  · refine (radd_ok size (pcText l) (entsAt 0 l) lv B x.kind x.inode x.block x.body w he hB (by omega) h1 (by omega) (by rw [hel]; omega) hok.1 (by rw [hel]; exact hok.2)).mono ?_
    rintro e w' ⟨lv', rfl, hO, hbl⟩
    unfold raOut addE addC addL
    rw [if_pos hok, if_pos hok, if_pos hok, pcText_snoc, entsAt_snoc, Nat.zero_add]
    exact ⟨lv', rfl, row_base hO hB, fun j hj => .inr ⟨(row_typed hO hj).1, by simp⟩, hbl⟩
  · have e1 : addL size l x = l := if_neg hok
    have e2 : addE size l x = Pc.zero := if_neg hok
    by_cases hm : x.ok
    · have e3 : addC size l x = 5 := by unfold addC; rw [if_neg hok, if_pos hm]
      refine (radd_full size (pcText l) (entsAt 0 l) lv B x.kind x.inode x.block x.body w he (by omega) h1 (by omega) (by rw [hel]; omega) hx hm (by
        rw [hel]
        by_cases hc : leftOf size (pcText l).length l.length < (x.body.size : Int)
        · exact hc
        · exact absurd ⟨hm, by omega⟩ hok)).mono ?_
      rintro e w' ⟨rfl, hbl⟩
      unfold raOut
      rw [e1, e2, e3]
      exact ⟨lv, rfl, row_base (row_below he hbl) (Nat.le_refl _), fun j hj => .inl hj, hbl⟩
    · have e3 : addC size l x = 1 := by unfold addC; rw [if_neg hok, if_neg hm]
      refine (radd_arg size (pcText l) (entsAt 0 l) lv B x.kind x.inode x.block x.body w he hm).mono ?_
      rintro e w' ⟨rfl, hbl⟩
      unfold raOut
      rw [e1, e2, e3]
      exact ⟨lv, rfl, row_base (row_below he hbl) (Nat.le_refl _), fun j hj => .inl hj, hbl⟩
theorem rsealP (size : Int) (l : List Pc) (lv : Value) (B : Nat) (w : World) (he : OwE w B lv (entsAt 0 l)) (hi : SegInv size l) (h1 : size ≤ 65536) (hl : l.length ≤ 2000) :
    Calls Try.prog 61 #[.agg (rsC size ⟨(pcText l).toArray⟩ lv)] w fun e w' => e = .returned (.string (segS l)) ∧ Below w.heap.size w w' :=
  rSeal_seg size (pcText l) (entsAt 0 l) lv B w he (by rw [entsAt_len]; exact hl) (hi.ents h1) (by have := (hi.bounds h1).1; omega)
end Go.Proofs.Ytljmaicobafgkaa
