/- Chapter 14, calls: Answer. -/
import Derived.Test.YthcnoamgkkbkcaaCaC
import Derived.Test.YthcnoamgkkbkcaaGs
namespace Go.Proofs.Ythcnoamgkkbkcaa
open Go.RowKit

def mgC (m : Mg) : Array Value := #[.int .i64 m.kind, .int .i64 m.frm, .int .i64 m.dst, .int .i64 m.id, .string m.body]
theorem canswer_nil (m : Mg) (w : World) : Calls Try.prog 22 #[.pointer none, .agg (mgC m)] w fun e w' => e = .returned (.bool false) ∧ Below w.heap.size w w' := by
  have HB := hide (fun n => below_drewN ((Below.refl w.heap.size w).alloc (Nat.le_refl _) (.cells #[.int .i64 m.kind, .int .i64 m.frm, .int .i64 m.dst, .int .i64 m.id, .string m.body] 32)) n)
  unfold mgC
  go_enter Try.func22, Try.ntmps22
  go_wp2_with fail
  go_quiet (fail)
  go_wp2
  go_ret
  exact ⟨rfl, HB.out _⟩
theorem cells_at {w : World} {b : Nat} {cs : Array Value} {ty : TypeId} (h : w.heap[b]? = some (.cells cs ty (0, 0))) {W : World} (hb : Below w.heap.size w W) (i : Nat) : W.cell? ⟨b, i, none⟩ = cs[i]? := obj_cell (obj_below h hb) i
theorem COk.answer {S : CS} {x : List Tm} (h : COk S x) {k : Ck} (hk : k ∈ S.L) (ho : k.st = 1) (body : ByteArray) : COk ⟨S.me, S.next, upd S.L k.id (ansG body)⟩ (tStop x k.id) := by
  refine ⟨upd_ids (fun _ => rfl) h.ids, fun m hm => ?_, fun m hm => ?_, fun m hm => ?_, fun m hm e => ?_, h.nxt, ?_, h.tok.stop _⟩
  · rcases upd_mem hm with ⟨j, hj, _, rfl⟩ | ⟨hm, _⟩
    · exact h.rng j hj
    · exact h.rng m hm
  · rcases upd_mem hm with ⟨j, hj, _, rfl⟩ | ⟨hm, _⟩
    · exact h.sent j hj
    · exact h.sent m hm
  · rcases upd_mem hm with ⟨j, hj, _, rfl⟩ | ⟨hm, _⟩
    · exact .inr (.inl rfl)
    · exact h.st m hm
  · rcases upd_mem hm with ⟨j, hj, _, rfl⟩ | ⟨hm, _⟩
    · exact absurd e (by simp [ansG])
    · exact h.rep m hm e
  · have h1 := (upd_tms (g := ansG body) h.ids hk ho).1
    rw [if_neg (by simp [ansG]), List.nil_append] at h1
    exact (h.per.filter _).trans h1.symm
/-- The answer is laid into its call's block. -/
theorem ans_store {w W : World} {B g t p c cm : Nat} {v : Value} {S : CS} {x : List Tm} {f : Int → Option Nat} (hk : COk S x) (h : CV w B g t p c cm v S x f) {id : Int} {b : Nat} {k : Ck} (hm : k ∈ S.L) (hid : k.id = id) (e : f id = some b) (hb : Below w.heap.size w W) (body : ByteArray) :
    ∃ w4, (Instr.storeAt 99 (.pointer (some ⟨b, 4, none⟩)) (.agg #[.int .i64 2, .string body])).run Try.prog W = .ok () w4 ∧ CV w4 B g t p c cm v ⟨S.me, S.next, upd S.L id (ansG body)⟩ x f ∧ Below B W w4 ∧ Kp W w4 ∧ (k.st = 1 → COk ⟨S.me, S.next, upd S.L id (ansG body)⟩ (tStop x id)) := by
  have hW := h.below hb
  obtain ⟨k0, h1, h2, h3⟩ := hW.cf.blk e
  obtain rfl : k0 = k := ids_inj hk.ids h1 hm (h2.trans hid.symm)
  have hrun := Go.run_storeAt_mid (P := Try.prog) W b 4 99 #[.int .i64 2, .string body] (fun j hj => by
    have hj2 : j < 2 := hj
    refine ⟨?_, obj_frozen h3 _⟩
    rw [obj_cell h3]
    rcases j with _ | _ | j
    · rfl
    · rfl
    · omega) info99 (by simp [Value.oneCell'])
  have hf := setCells_fr b [.int .i64 2, .string body] 4 W
  have hc := setCells_at [.int .i64 2, .string body] 4 W _ h3
  have e1 : stl (ckC k0) 4 [.int .i64 2, .string body] = ckC (ansG body k0) := rfl
  rw [e1] at hc
  obtain ⟨a1, a2, a3⟩ := hW.turn hk.ids e hm hid (gg := ansG body) (fun _ => rfl) hf hc
  refine ⟨_, hrun, a1, a2, a3, fun ho => ?_⟩
  rw [← hid]
  exact hk.answer hm ho body
set_option maxHeartbeats 8000000 in
set_option maxRecDepth 100000 in
theorem canswer_any {w : World} {B g t p c cm : Nat} {v : Value} {S : CS} {x : List Tm} {f : Int → Option Nat} (h : CV w B g t p c cm v S x f) (hk : COk S x) (m : Mg) :
    Calls Try.prog 22 #[.pointer (some ⟨g, 0, none⟩), .agg (mgC m)] w fun e w' => e = .returned (.bool (cAnswer S m).2) ∧ ∃ x', CA w B g t p c cm (cAnswer S m).1 x' w' := by
  obtain ⟨kind, frm, dst, id, body⟩ := m
  obtain ⟨W, hW⟩ : ∃ W, W = w.alloc (.cells #[.int .i64 kind, .int .i64 frm, .int .i64 dst, .int .i64 id, .string body] 32) := ⟨_, rfl⟩
  have hb : Below w.heap.size w W := by rw [hW]; exact (Below.refl _ _).alloc (Nat.le_refl _) _
  have om : W.heap[w.heap.size]? = some (.cells #[.int .i64 kind, .int .i64 frm, .int .i64 dst, .int .i64 id, .string body] 32 (0, 0)) := by rw [hW]; exact obj_new w _
  have hw := h.below hb
  obtain ⟨me, hme⟩ : ∃ me, me = S.me := ⟨_, rfl⟩
  have z0 := obj_cell hw.o 0
  have z2 := obj_cell hw.o 2
  have z3 := obj_cell hw.o 3
  have y0 := obj_cell om 0
  have y1 := obj_cell om 1
  have y2 := obj_cell om 2
  have y3 := obj_cell om 3
  have y4 := obj_cell om 4
  simp only [cC, List.getElem?_toArray, List.getElem?_cons_zero, List.getElem?_cons_succ] at z0 z2 z3 y0 y1 y2 y3 y4
  have hlk := fun n => MK.run_look_ok (hw.below (w' := W.drewN n) (below_drewN (Below.refl _ _) n)).mp id
  have hfd := hw.find hk.ids id
  have HBZ := hide h.bsz
  have HNO := hide (show ∀ n, CA w B g t p c cm S x (W.drewN n) from fun n => (h.self hk).below (below_drewN hb n))
  have HK := hide hk
  have HW := hide hw
  have HBW := hide hb
  unfold cAnswer mgC
  simp only
  rw [← hme] at z0 ⊢
  have HME := hide hme
  clear hb om hw h hk hme
  rw [hW] at z0 z2 z3 y0 y1 y2 y3 y4 hlk
  by_cases h1 : kind = 2 ∧ dst = me
  rotate_left
  · rw [if_neg h1]
    have HNO2 : Hid (∀ n, CA w B g t p c cm S x ((w.alloc (.cells #[.int .i64 kind, .int .i64 frm, .int .i64 dst, .int .i64 id, .string body] 32)).drewN n)) := hide (by rw [← hW]; exact HNO.out)
    clear hlk hW
    by_cases h2 : kind = 2
    · have h3 : ¬ dst = me := fun e => h1 ⟨h2, e⟩
      clear h1
      subst h2
      go_enter Try.func22, Try.ntmps22
      go_wp2_with fail
      go_quiet (fail)
      go_wp2
      go_ret
      exact ⟨rfl, _, HNO2.out _⟩
    · clear h1
      go_enter Try.func22, Try.ntmps22
      go_wp2_with fail
      go_quiet (fail)
      go_wp2
      go_ret
      exact ⟨rfl, _, HNO2.out _⟩
  · rw [if_pos h1]
    obtain ⟨h1, h2⟩ := h1
    subst h1 h2
    have HNO2 : Hid (∀ a b d, CA w B g t p c cm S x ((((w.alloc (.cells #[.int .i64 2, .int .i64 frm, .int .i64 dst, .int .i64 id, .string body] 32)).drewN a).drewN b).drewN d)) := hide (by
      rw [← hW]
      intro a b d
      exact (HNO.out a).below (below_drewN (below_drewN (Below.refl _ _) b) d))
    rcases e : fnd S.L id with _ | k
    · rw [e] at hfd
      simp only at hfd ⊢
      rw [hfd] at hlk
      have hlk' : ∀ n, (Instr.lookup 89 (.map (some cm)) (.int .i64 id) true).run Try.prog ((w.alloc (.cells #[.int .i64 2, .int .i64 frm, .int .i64 dst, .int .i64 id, .string body] 32)).drewN n) = .ok (.tuple #[.pointer none, .bool false]) ((w.alloc (.cells #[.int .i64 2, .int .i64 frm, .int .i64 dst, .int .i64 id, .string body] 32)).drewN n) := hlk
      clear hlk hfd hW
      go_enter Try.func22, Try.ntmps22
      go_wp2_with fail
      go_quiet (fail)
      go_wp2_with fail
      go_quiet (fail)
      go_wp2_with fail
      go_quiet (fail)
      go_wp2
      go_ret
      exact ⟨rfl, _, HNO2.out _ _ _⟩
    · rw [e] at hfd
      simp only at hfd ⊢
      obtain ⟨b, hb1, hb2⟩ := hfd
      rw [hb1] at hlk
      have hlk' : ∀ n, (Instr.lookup 89 (.map (some cm)) (.int .i64 id) true).run Try.prog ((w.alloc (.cells #[.int .i64 2, .int .i64 frm, .int .i64 dst, .int .i64 id, .string body] 32)).drewN n) = .ok (.tuple #[.pointer (some ⟨b, 0, none⟩), .bool true]) ((w.alloc (.cells #[.int .i64 2, .int .i64 frm, .int .i64 dst, .int .i64 id, .string body] 32)).drewN n) := hlk
      obtain ⟨hmem, hid⟩ := fnd_some e
      have q0 := obj_cell hb2 0
      have q4 := obj_cell hb2 4
      have q5 := obj_cell hb2 5
      simp only [ckC, List.getElem?_toArray, List.getElem?_cons_zero, List.getElem?_cons_succ] at q0 q4 q5
      rw [hW] at q0 q4 q5
      obtain ⟨kid, kdst, kst, ksent, kdue, kbody, krep⟩ := k
      simp only at q0 q4 q5 hid ⊢
      by_cases h3 : kst = 1 ∧ kdst = frm
      rotate_left
      · rw [if_neg h3]
        clear hlk hW hb1 hb2 e
        by_cases h4 : kst = 1
        · have h5 : (kdst != frm) = true := by simpa using fun e => h3 ⟨h4, e⟩
          have h6 : krep = ByteArray.empty := HK.out.rep _ hmem h4
          subst h6
          subst h4
          clear h3 hmem
          go_enter Try.func22, Try.ntmps22
          go_wp2_with fail
          go_quiet (fail)
          go_wp2_with fail
          go_quiet (fail)
          go_wp2_with fail
          go_quiet (fail)
          go_wp2
          go_ret
          exact ⟨rfl, _, HNO2.out _ _ _⟩
        · have h5 : (kst == 1) = false := by simpa using h4
          clear h3 h4 hmem
          go_enter Try.func22, Try.ntmps22
          go_wp2_with fail
          go_quiet (fail)
          go_wp2_with fail
          go_quiet (fail)
          go_wp2_with fail
          go_quiet (fail)
          go_wp2
          go_ret
          exact ⟨rfl, _, HNO2.out _ _ _⟩
      · rw [if_pos h3]
        obtain ⟨h3, h4⟩ := h3
        subst h3
        subst h4
        have h6 : krep = ByteArray.empty := HK.out.rep _ hmem rfl
        subst h6
        have HST := hide (fun d => ans_store (W := (w.alloc (.cells #[.int .i64 2, .int .i64 kdst, .int .i64 dst, .int .i64 id, .string body] 32)).drewN d) HK.out HW.out hmem hid hb1 (by rw [← hW]; exact below_drewN (Below.refl _ _) d) body)
        have HBW2 := hide (fun d => show Below w.heap.size w ((w.alloc (.cells #[.int .i64 2, .int .i64 kdst, .int .i64 dst, .int .i64 id, .string body] 32)).drewN d) from by rw [← hW]; exact below_drewN HBW.out d)
        have HOM := hide (fun d => show ((w.alloc (.cells #[.int .i64 2, .int .i64 kdst, .int .i64 dst, .int .i64 id, .string body] 32)).drewN d).heap[w.heap.size]? = some (.cells #[.int .i64 2, .int .i64 kdst, .int .i64 dst, .int .i64 id, .string body] 32 (0, 0)) from obj_below (obj_new w _) (below_drewN (Below.refl _ _) d))
        have HBS := hide (show B ≤ w.heap.size from by
          exact HBZ.out)
        clear hlk hW hb1 hb2 e hmem
        go_enter Try.func22, Try.ntmps22
        go_wp2_with fail
        go_quiet (fail)
        rename Nat => n1
        go_wp2_with fail
        go_quiet (fail)
        rename Nat => n2
        go_wp2_with fail
        go_quiet (fail)
        rename Nat => n3
        obtain ⟨w4, hrun, hcv, hbb, hkp, hok⟩ := HST.out (n1 + n2 + n3)
        have hfin := fun (w5 : World) (ha : TAft w4.drew B t p c v (tStop x id) w5) => show CA w B g t p c cm ⟨S.me, S.next, upd S.L id (ansG body)⟩ (tStop x id) w5 from by
          obtain ⟨⟨v', a1⟩, a2, a3⟩ := (hcv.below (show Below w4.heap.size w4 w4.drew from (Below.refl _ _).drew)).timers ha
          exact ⟨⟨v', f, a1⟩, hok (by trivial), ((((HBW2.out (n1 + n2 + n3)).mono HBS.out).trans hbb).trans ((Below.refl _ _).drew)).trans a2, (((Kp.of_below (HBW2.out (n1 + n2 + n3))).trans hkp).trans (.of_below (Below.refl _ _).drew)).trans a3⟩
        have hstp := tstop_any (hcv.tx.below (show Below w4.heap.size w4 w4.drew from (Below.refl _ _).drew)) HK.out.tok id
        have zt := obj_cell hcv.o 3
        have om4 := hkp _ _ _ (HOM.out (n1 + n2 + n3)) (by decide) (by decide) (by decide) (by decide)
        have y3' := obj_cell om4 3
        simp only [cC, List.getElem?_toArray, List.getElem?_cons_zero, List.getElem?_cons_succ] at zt y3'
        have HFIN := hide hfin
        have HSTP := hide hstp
        have HRUN := hide hrun
        clear hrun hcv hbb hkp hok hfin hstp om4 z0 z2 z3 y0 y1 y2 y3 q0 q4 q5 hlk'
        go_wp2_with (refine wpList_storev' (w' := w4) rfl 99 (.tmp 57) (.tmp 55) rfl rfl rfl ?_ ?_; exact HRUN.out)
        refine wp_stl 6 (by kernel_rfl) (by kernel_rfl) ?_
        simp only [List.take_succ_cons, List.take_zero, List.drop_succ_cons, List.drop_zero]
        repeat still_step
        refine wpStill_nil ?_
        clear zt y3'
        go_wp2_with fail
        refine HSTP.out.mono ?_
        rintro e w5 ⟨rfl, ha⟩
        have HF := hide (HFIN.out _ ha)
        clear ha
        go_wp2
        go_ret
        refine ⟨rfl, tStop x id, ?_⟩
        rw [HME.out]
        exact HF.out
end Go.Proofs.Ythcnoamgkkbkcaa
