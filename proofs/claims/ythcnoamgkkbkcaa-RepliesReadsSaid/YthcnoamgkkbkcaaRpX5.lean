/- Chapter 15, replies: the walk of RepliesReads. -/
import Derived.Test.YthcnoamgkkbkcaaRpR6
import Derived.Test.YthcnoamgkkbkcaaRpR4
import Derived.Test.YthcnoamgkkbkcaaRpW
namespace Go.Proofs.Ythcnoamgkkbkcaa
open Go.RowKit

/-- A load that a guard lets through. -/
theorem wpList_loadG {P : Program} {ops : Array Oper} {rest : List Oper} {o : Oper} {a : Act} {w w0 : World} {Q : Exit → Act → World → Prop} (ty : TypeId) (x : Operand) (ho : o.op = .load ty x) (hgd : Region.wanted o (yielded ops a.tmps) = true) {p v : Value} (hx : a.eval x = p)
    (hrun : (Instr.loadAt ty p).run P w0 = .ok v w0) (hw : w = w0) (h : wpList P ops Q rest (a.put o.dst v) w) : wpList P ops Q (o :: rest) a w := by
  subst hw
  refine wpList_step fun K hK => ?_
  rw [if_pos hgd]
  unfold Oper.wp execOp
  simp only [ho, hx, Sem.run_bind, hrun, Result.andThen_ok, Sem.run_pure]
  exact hK _ _ h
set_option maxHeartbeats 16000000 in
set_option maxRecDepth 100000 in
theorem walk_repliesReads (s : ByteArray) (w : World) (_hs : s.size ≤ 140737488351232) :
    Calls Try.prog 10 #[.string s] w fun e w' => e = .returned (.bool true) ∧ Below w.heap.size w w' := by
  have AW := hide (fun W => awake15 W)
  rcases Nat.lt_or_ge 10000 s.size with hbig | hbig
  · have hbi : (10000 : Int) < (s.size : Int) := by omega
    go_enter Try.func10, Try.ntmps10
    go_wp2_with fail
    refine (AW.out _).mono ?_
    rintro e w2 ⟨rfl, hb⟩
    go_wp2
    go_ret
    exact ⟨rfl, hb⟩
  have hbi : ¬ (10000 : Int) < (s.size : Int) := by omega
  have hl : s.data.toList.length ≤ 16777216 := by rw [← size_list]; omega
  have HP := hide (rRead_any s w hl)
  have HQ := hide (fun W => readQ_any (w := W) s hl)
  have hinv := fun S => rRead_inv (s := s.data.toList) (S := S)
  obtain ⟨o, ho⟩ : ∃ o, o = rRead s.data.toList := ⟨_, rfl⟩
  rw [← ho] at HP HQ
  simp only [← ho] at hinv
  clear ho hl hbig
  rcases o with _ | S
  · clear hinv
    go_enter Try.func10, Try.ntmps10
    go_wp2_with fail
    refine HP.out.mono ?_
    rintro e w1 ⟨hb1, rfl⟩
    have HB1 := hide hb1
    clear hb1
    go_wp2_with fail
    refine (HQ.out w1).mono ?_
    rintro e w2 ⟨hb2, rfl⟩
    have hst := store68 (qr_zero w2 0) (qr_zero w2 0).sz (obj_new w2 (.cells Try.zeroCells68 68))
    obtain ⟨w3, hw3⟩ : ∃ W, W = (w2.alloc (.cells Try.zeroCells68 68)).setRow w2.heap.size Try.zeroCells68 := ⟨_, rfl⟩
    rw [← hw3] at hst
    have hb3 : Below w2.heap.size w2 w3 := by
      rw [hw3]
      exact ((Below.refl _ _).alloc (Nat.le_refl _) _).trans ((setRow_fr' _ _ _).below _ (by simp) (fun j hj e => by omega))
    have hbb := HB1.out.trans (hb2.mono HB1.out.size)
    have HB3 := hide (hbb.trans (hb3.mono hbb.size))
    have HST := hide hst
    clear hb2 hst hw3 hb3 hbb
    go_wp2_with (refine wpList_storeW ?_ 68 (.tmp 5) (.tmp 19) ?_ ?_ ?_ HST.out ?_ ?_; rfl; rfl; rfl; rfl; rfl)
    refine (AW.out w3).mono ?_
    rintro e w4 ⟨rfl, hb4⟩
    have HB4 := hide (HB3.out.trans (hb4.mono HB3.out.size))
    clear hb4
    go_wp2
    go_ret
    exact ⟨rfl, HB4.out⟩
  · have HT := hide (show (⟨(textR S).toArray⟩ : ByteArray) = s from by rw [hinv S rfl])
    clear hinv
    go_enter Try.func10, Try.ntmps10
    go_wp2_with fail
    refine HP.out.mono ?_
    rintro e w1 ⟨hb1, g, cm, f, rfl, hv, hk⟩
    have hr1 : RR w w.heap.size g cm S w1 := ⟨⟨f, hv⟩, hk, hb1, Nat.le_refl _⟩
    have HR1 := hide hr1
    clear hb1 hv hk hr1
    go_wp2_with fail
    refine (HQ.out w1).mono ?_
    rintro e w2 ⟨hb2, C', rfl, hq2⟩
    have hn := obj_new w2 (.cells Try.zeroCells68 68)
    have hst := store68 hq2 (qr_zero w2 0).sz hn
    have F := setRow_fr' (w2.alloc (.cells Try.zeroCells68 68)) w2.heap.size C'
    obtain ⟨w3, hw3⟩ : ∃ W, W = (w2.alloc (.cells Try.zeroCells68 68)).setRow w2.heap.size C' := ⟨_, rfl⟩
    have hal := (Below.refl w2.heap.size w2).alloc (Nat.le_refl _) (.cells Try.zeroCells68 68)
    have hq3 := (hq2.below hal).fr F (fun j cs e _ e2 => by
      rw [e2, hn] at e
      simp only [Option.some.injEq, Obj.cells.injEq] at e
      exact absurd e.2.1 (by decide))
    have hat := setRow_at' (C' := C') hn
    have hb3 : Below w2.heap.size w2 w3 := by
      rw [hw3]
      exact hal.trans (F.below _ (by simp) (fun j hj e => by omega))
    rw [← hw3] at hst hq3 hat
    have hr3 := HR1.out.below (hb2.trans (hb3.mono hb2.size))
    have HR3 := hide hr3
    have HQ3 := hide hq3
    have HAT := hide hat
    have HST := hide hst
    clear hb2 hq2 hn hst F hw3 hal hq3 hat hb3 hr3
    go_wp2_with (refine wpList_storeW ?_ 68 (.tmp 5) (.tmp 19) ?_ ?_ ?_ HST.out ?_ ?_; rfl; rfl; rfl; rfl; rfl)
    refine (text_rr HR3.out).mono ?_
    rintro e w4 ⟨rfl, hr4, hb4⟩
    have hat4 := obj_below HAT.out hb4
    have hq4 := HQ3.out.below hb4
    have HLD := hide (load68 hq4 hat4)
    have HR4 := hide hr4
    have HQ4 := hide hq4
    clear hr4 hb4 hat4 hq4
    rw [HT.out]
    go_wp2_with (refine wpList_loadG 68 (.tmp 5) ?_ ?_ ?_ HLD.out ?_ ?_; rfl; rfl; rfl; rfl)
    refine (textQ_any HQ4.out HR4.out.ok).mono ?_
    rintro e w5 ⟨rfl, hb5⟩
    have HB5 := hide (HR4.out.b.trans (hb5.mono HR4.out.b.size))
    clear hb5
    rw [HT.out]
    go_wp2_with fail
    refine (AW.out w5).mono ?_
    rintro e w6 ⟨rfl, hb6⟩
    have HB6 := hide (HB5.out.trans (hb6.mono HB5.out.size))
    clear hb6
    go_wp2
    go_ret
    exact ⟨rfl, HB6.out⟩
end Go.Proofs.Ythcnoamgkkbkcaa
