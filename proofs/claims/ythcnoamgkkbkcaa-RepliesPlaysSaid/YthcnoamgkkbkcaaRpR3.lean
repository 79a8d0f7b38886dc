/- Chapter 15, replies: the reference: Put. -/
import Derived.Test.YthcnoamgkkbkcaaRpR2
namespace Go.Proofs.Ythcnoamgkkbkcaa
open Go.RowKit

def tpPost (w : World) (B : Nat) (S : RS) (b : Bool) (e : Ending) (w' : World) : Prop :=
  ∃ C', e = .returned (.tuple #[.agg C', .bool b]) ∧ QR w' B C' S ∧ Below w.heap.size w w'
set_option maxHeartbeats 16000000 in
set_option maxRecDepth 100000 in
theorem putQ_any {w : World} {B : Nat} {C : Array Value} {S : RS} (h : QR w B C S) (hk : ROk S) (hB : B ≤ w.heap.size) (c id : Int) (s : ByteArray) :
    Calls Try.prog 34 #[.agg C, .int .i64 c, .int .i64 id, .string s] w fun e w' => tpPost w B (rPut S c id s).1 (rPut S c id s).2 e w' := by
  have hal := ((Below.refl w.heap.size w).alloc (Nat.le_refl _) (.cells C 68)).alloc (by simp) (.cells Try.zeroCells68 68)
  have HB := hide hal
  have HO := hide (obj_alloc (obj_new w (.cells C 68)) (.cells Try.zeroCells68 68))
  have HP := hide (obj_new' w (.cells C 68) (.cells Try.zeroCells68 68))
  have HMR := hide (fun W => mayQ_any c id W)
  have HQ0 := hide (h.below hal)
  clear hal
  unfold rPut
  by_cases hm : mayR c id
  rotate_left
  · rw [if_neg (fun hh => hm hh.1), decide_eq_false hm] at *
    simp only
    clear h hk hm
    obtain ⟨hld, hst, hat, hsz, hq, hbe⟩ := endQ HQ0.out HO.out HP.out (qr_zero w 0).sz HB.out (Nat.le_succ _)
    have HLD := hide hld
    have HST := hide hst
    have HAT := hide hat
    have HSZ := hide hsz
    have HQ := hide hq
    have HBE := hide hbe
    clear hld hst hat hsz hq hbe
    go_enter Try.func34, Try.ntmps34
    go_wp2_with fail
    refine (HMR.out _).mono ?_
    rintro e w1 ⟨rfl, rfl⟩
    go_wp2_with (first | (refine wpList_loadW ?_ 68 (.tmp 4) ?_ ?_ HLD.out ?_ ?_; rfl; rfl; rfl; rfl) | (refine wpList_storeW ?_ 68 (.tmp 8) (.tmp 22) ?_ ?_ ?_ HST.out ?_ ?_; rfl; rfl; rfl; rfl; rfl))
    refine bodyPost_ret (res_ct rfl _ _ (w.heap.size + 1) 68 _ (0, 0) _ rfl HAT.out Try.underlying68 rfl HSZ.out) rfl ?_
    refine ⟨_, ?_, HQ.out, HBE.out⟩
    rfl
  rw [decide_eq_true hm] at HMR
  by_cases hs : s.size ≤ 4096
  rotate_left
  · rw [if_neg (fun hh => hs hh.2)]
    simp only
    have hsi : (4096 : Int) < (s.size : Int) := by omega
    clear h hk hm hs
    obtain ⟨hld, hst, hat, hsz, hq, hbe⟩ := endQ HQ0.out HO.out HP.out (qr_zero w 0).sz HB.out (Nat.le_succ _)
    have HLD := hide hld
    have HST := hide hst
    have HAT := hide hat
    have HSZ := hide hsz
    have HQ := hide hq
    have HBE := hide hbe
    clear hld hst hat hsz hq hbe
    go_enter Try.func34, Try.ntmps34
    go_wp2_with fail
    refine (HMR.out _).mono ?_
    rintro e w1 ⟨rfl, rfl⟩
    go_wp2_with (first | (refine wpList_loadW ?_ 68 (.tmp 4) ?_ ?_ HLD.out ?_ ?_; rfl; rfl; rfl; rfl) | (refine wpList_storeW ?_ 68 (.tmp 8) (.tmp 22) ?_ ?_ ?_ HST.out ?_ ?_; rfl; rfl; rfl; rfl; rfl))
    refine bodyPost_ret (res_ct rfl _ _ (w.heap.size + 1) 68 _ (0, 0) _ rfl HAT.out Try.underlying68 rfl HSZ.out) rfl ?_
    refine ⟨_, ?_, HQ.out, HBE.out⟩
    rfl
  rw [if_pos ⟨hm, hs⟩]
  have hsi : ¬ (4096 : Int) < (s.size : Int) := by omega
  obtain ⟨ci, rfl⟩ : ∃ ci : Nat, c = (ci : Int) := ⟨c.toNat, by have := hm.1; omega⟩
  have hd : ci < 64 := by have := hm.2.1; omega
  have hdi : (ci : Int) < 64 := by omega
  obtain ⟨v, hv, hsg⟩ := h.L ci hd
  have z1 := obj_cell HO.out (1 + ci)
  rw [hv] at z1
  have hlen := hk.len ci
  have hroom := hk.room
  have hsrt := hk.srt ci
  obtain ⟨l, hl⟩ : ∃ l, l = S.L (ci : Int) := ⟨_, rfl⟩
  have HL := hide hl
  rw [← hl] at hlen hsg hsrt ⊢
  obtain ⟨A, cap, e, hc1, hc2⟩ := EK.sg_slice hsg
  rw [e] at z1 hsg hv
  have HSGW := hide (EK.sg_below hsg HB.out)
  have HFI := hide (findQ_any HSGW.out hsrt (by omega) id)
  obtain ⟨n, hn⟩ : ∃ n, n = l.length := ⟨_, rfl⟩
  rw [← hn] at z1 HSGW HFI hc1 hlen hv
  have HV := hide hv
  have HN := hide hn
  have hle := ahd_le l id
  rw [← hn] at hle
  obtain ⟨i, hi⟩ : ∃ i, i = ahd l id := ⟨_, rfl⟩
  rw [← hi] at hle HFI ⊢
  have HI := hide hi
  have HLE := hide hle
  have HD := hide hd
  have HBS := hide hB
  simp only [maxLen] at hc2
  have hn16 : n ≤ 16 := by omega
  have HS := hide hs
  clear h hk hm hsg e hlen hl hsrt hn hv hd hB hs
  rcases e0 : l[i]? with _ | x
  · simp only
    have hat : isAt l id = false := isAt_none (by rw [← hi]; exact e0)
    rw [hat] at HFI
    clear hat e0 hle hi
    go_enter Try.func34, Try.ntmps34
    go_wp2_with fail
    refine (HMR.out _).mono ?_
    rintro e w1 ⟨rfl, rfl⟩
    go_wp2_with fail
    refine HFI.out.mono ?_
    rintro e w1 ⟨rfl, hb1⟩
    have hbb := HB.out.trans (hb1.mono HB.out.size)
    obtain ⟨hld, hst, hat, hsz, hq, hbe⟩ := endQ (HQ0.out.below hb1) (obj_below HO.out hb1) (obj_below HP.out hb1) (qr_zero w 0).sz hbb (Nat.le_succ _)
    have HLD := hide hld
    have HST := hide hst
    have HAT := hide hat
    have HSZ := hide hsz
    have HQ := hide hq
    have HBE := hide hbe
    clear hld hst hat hsz hq hbe
    clear hb1 hbb
    go_wp2_with (first | (refine wpList_loadW ?_ 68 (.tmp 4) ?_ ?_ HLD.out ?_ ?_; rfl; rfl; rfl; rfl) | (refine wpList_storeW ?_ 68 (.tmp 8) (.tmp 45) ?_ ?_ ?_ HST.out ?_ ?_; rfl; rfl; rfl; rfl; rfl))
    refine bodyPost_ret (res_ct rfl _ _ (w.heap.size + 1) 68 _ (0, 0) _ rfl HAT.out Try.underlying68 rfl HSZ.out) rfl ?_
    refine ⟨_, ?_, HQ.out, HBE.out⟩
    rfl
  · simp only
    have hat : isAt l id = (x.id == id) := isAt_some (by rw [← hi]; exact e0)
    rw [hat] at HFI
    obtain ⟨hil, hxe⟩ := List.getElem?_eq_some_iff.1 e0
    have HXE := hide (show ∃ hl : i < l.length, l[i] = x from ⟨hil, hxe⟩)
    have hin : (i : Int) < (n : Int) := by have := HN.out; omega
    obtain ⟨xid, xb, xr⟩ := x
    clear hat hil hxe e0 hle hi
    simp only at HFI ⊢
    by_cases hid : xid = id
    rotate_left
    · rw [if_neg (fun hh => hid hh.1)]
      simp only
      have hid' : (xid == id) = false := by simpa using hid
      rw [hid'] at HFI
      clear hid hid'
      go_enter Try.func34, Try.ntmps34
      go_wp2_with fail
      refine (HMR.out _).mono ?_
      rintro e w1 ⟨rfl, rfl⟩
      go_wp2_with fail
      refine HFI.out.mono ?_
      rintro e w1 ⟨rfl, hb1⟩
      have hbb := HB.out.trans (hb1.mono HB.out.size)
      obtain ⟨hld, hst, hat, hsz, hq, hbe⟩ := endQ (HQ0.out.below hb1) (obj_below HO.out hb1) (obj_below HP.out hb1) (qr_zero w 0).sz hbb (Nat.le_succ _)
      have HLD := hide hld
      have HST := hide hst
      have HAT := hide hat
      have HSZ := hide hsz
      have HQ := hide hq
      have HBE := hide hbe
      clear hld hst hat hsz hq hbe
      clear hb1 hbb
      go_wp2_with (first | (refine wpList_loadW ?_ 68 (.tmp 4) ?_ ?_ HLD.out ?_ ?_; rfl; rfl; rfl; rfl) | (refine wpList_storeW ?_ 68 (.tmp 8) (.tmp 45) ?_ ?_ ?_ HST.out ?_ ?_; rfl; rfl; rfl; rfl; rfl))
      refine bodyPost_ret (res_ct rfl _ _ (w.heap.size + 1) 68 _ (0, 0) _ rfl HAT.out Try.underlying68 rfl HSZ.out) rfl ?_
      refine ⟨_, ?_, HQ.out, HBE.out⟩
      rfl
    have hid' : (xid == id) = true := by simpa using hid
    rw [hid'] at HFI
    clear hid'
    cases xb
    · rw [if_neg (fun hh => Bool.false_ne_true hh.2)]
      simp only
      clear hid
      go_enter Try.func34, Try.ntmps34
      go_wp2_with fail
      refine (HMR.out _).mono ?_
      rintro e w1 ⟨rfl, rfl⟩
      go_wp2_with fail
      refine HFI.out.mono ?_
      rintro e w1 ⟨rfl, hb1⟩
      have hbb := HB.out.trans (hb1.mono HB.out.size)
      obtain ⟨b, o, c', e1, -, -, -, -, hcell⟩ := EK.sg_cells (EK.sg_below HSGW.out hb1) HXE.out.1
      rw [← HN.out] at e1
      injection e1 with e1a e1b e1c
      subst e1a e1c
      have q1 := hcell 1 (by decide)
      rw [HXE.out.2] at q1
      simp only [kQ, eC, List.getElem?_cons_zero, List.getElem?_cons_succ] at q1
      have zc := obj_cell (obj_below HO.out hb1) (1 + ci)
      rw [HV.out] at zc
      obtain ⟨hld, hst, hat, hsz, hq, hbe⟩ := endQ (HQ0.out.below hb1) (obj_below HO.out hb1) (obj_below HP.out hb1) (qr_zero w 0).sz hbb (Nat.le_succ _)
      have HLD := hide hld
      have HST := hide hst
      have HAT := hide hat
      have HSZ := hide hsz
      have HQ := hide hq
      have HBE := hide hbe
      clear hld hst hat hsz hq hbe
      clear hcell hb1 hbb e1b
      go_wp2_with (first | (refine wpList_loadW ?_ 68 (.tmp 4) ?_ ?_ HLD.out ?_ ?_; rfl; rfl; rfl; rfl) | (refine wpList_storeW ?_ 68 (.tmp 8) (.tmp 45) ?_ ?_ ?_ HST.out ?_ ?_; rfl; rfl; rfl; rfl; rfl))
      refine bodyPost_ret (res_ct rfl _ _ (w.heap.size + 1) 68 _ (0, 0) _ rfl HAT.out Try.underlying68 rfl HSZ.out) rfl ?_
      refine ⟨_, ?_, HQ.out, HBE.out⟩
      rfl
    · rw [if_pos ⟨hid, rfl⟩]
      simp only
      clear hid
      go_enter Try.func34, Try.ntmps34
      go_wp2_with fail
      refine (HMR.out _).mono ?_
      rintro e w1 ⟨rfl, rfl⟩
      go_wp2_with fail
      refine HFI.out.mono ?_
      rintro e w1 ⟨rfl, hb1⟩
      have hbb := HB.out.trans (hb1.mono HB.out.size)
      obtain ⟨b, o, c', e1, -, -, -, -, hcell⟩ := EK.sg_cells (EK.sg_below HSGW.out hb1) HXE.out.1
      rw [← HN.out] at e1
      injection e1 with e1a e1b e1c
      subst e1a e1c
      have q1 := hcell 1 (by decide)
      rw [HXE.out.2] at q1
      simp only [kQ, eC, List.getElem?_cons_zero, List.getElem?_cons_succ] at q1
      have zc := obj_cell (obj_below HO.out hb1) (1 + ci)
      rw [HV.out] at zc
      have hu1 := EK.sg_below HSGW.out hb1
      have hal2 : Below w1.heap.size w1 w1 := Below.refl _ _
      obtain ⟨v2, w2, hrun, hrow, hf2, -⟩ := EK.app (K := kQ) (EK.row_nil w1 w1.heap.size) (EK.sg_rd hu1) (by have := HN.out; simp; omega) (Nat.le_refl _) 65
      rw [List.nil_append] at hrow
      have HR1 := hide hrun
      have hb2 : Below w1.heap.size w1 w2 := hf2.below _ (Nat.le_refl _) (fun i _ e => by cases e)
      obtain ⟨r, cp, er, hr1, hr2, -, -, -⟩ := EK.row_cells hrow (k := i) HXE.out.1
      rw [← HN.out] at er hr1
      subst er
      simp only [maxLen] at hr2
      rw [show (.slice (some ⟨r, 0, none⟩) n cp : Value) = .slice (some ⟨r, 0, none⟩) n cp from rfl] at hrow
      obtain ⟨p1, p2, p3⟩ := EK.row_put hrow HXE.out.1 ⟨id, false, s⟩
      have hrB := (EK.row_typed hrow (k := r) rfl).1
      obtain ⟨w3, hw3⟩ : ∃ W, W = w2.setCells r (i * kQ.sz) (kQ.cs ⟨id, false, s⟩) := ⟨_, rfl⟩
      rw [← hw3] at p1 p2 p3
      have HP1 : Hid ((Instr.storeAt 113 (.pointer (some ⟨r, i * 3, none⟩)) (.agg #[.int .i64 id, .bool false, .string s])).run Try.prog w2 = .ok () w3) := hide p1
      have hb3 : Below w1.heap.size w1 w3 := hb2.trans (p3.below _ hb2.size (fun j hj e => by omega))
      have hO3 := obj_below (obj_below HO.out hb1) hb3
      have hP3 := obj_below (obj_below HP.out hb1) hb3
      have hQ3 := (HQ0.out.below hb1).below hb3
      have hB3 := hbb.trans (hb3.mono hbb.size)
      have zd := obj_cell hO3 (1 + ci)
      have zd2 := obj_cell (obj_below (obj_below HO.out hb1) hb2) (1 + ci)
      rw [HV.out] at zd zd2
      have td := obj_frozen hO3 (1 + ci)
      have hsg3 : kQ.sg w3 B (.slice (some ⟨r, 0, none⟩) n cp) (l.set i ⟨id, false, s⟩) := EK.sg_base (EK.row_sg p2) (Nat.le_trans HBS.out hbb.size)
      have F := (Fr.refl (fun j => j = w.heap.size) w3).setCell (p := ⟨w.heap.size, 1 + ci, none⟩) (fun _ => rfl) (.slice (some ⟨r, 0, none⟩) n cp)
      have hQ4 : QR (w3.setCell ⟨w.heap.size, 1 + ci, none⟩ (.slice (some ⟨r, 0, none⟩) n cp)) B (C.setIfInBounds (1 + ci) (.slice (some ⟨r, 0, none⟩) n cp)) ⟨S.room, setL S.L (ci : Int) (l.set i ⟨id, false, s⟩)⟩ :=
        (QR.set hQ3 HD.out hsg3).fr F (fun j cs e1 _ e2 => by
          rw [e2, hO3] at e1
          simp only [Option.some.injEq, Obj.cells.injEq] at e1
          exact absurd e1.2.1 (by decide))
      have hO4 := obj_set hO3 (1 + ci) (.slice (some ⟨r, 0, none⟩) n cp)
      have hP4 := F.obj hP3 (by omega)
      have hB4 : Below w.heap.size w (w3.setCell ⟨w.heap.size, 1 + ci, none⟩ (.slice (some ⟨r, 0, none⟩) n cp)) := hB3.trans (F.below _ hB3.size (fun j hj e => by omega))
      obtain ⟨hld, hst, hat, hsz, hq, hbe⟩ := endQ hQ4 hO4 hP4 (qr_zero w 0).sz hB4 (Nat.le_succ _)
      have HLD := hide hld
      have HST := hide hst
      have HAT := hide hat
      have HSZ := hide hsz
      have HQ := hide hq
      have HBE := hide hbe
      clear hld hst hat hsz hq hbe
      clear hcell hb1 hbb e1b hu1 hal2 hrun hrow hf2 hb2 p1 p2 p3 hrB hw3 hb3 hO3 hP3 hQ3 hB3 hsg3 F hQ4 hO4 hP4 hB4
      go_wp2_with (first | (at_builtin; refine wpList_append_run (v' := .slice (some ⟨r, 0, none⟩) n cp) (w' := w2) rfl (.const (.slice none 0 0)) (.tmp 49) 65 65 rfl rfl rfl HR1.out ?_) | (refine wpList_storeW ?_ 113 (.tmp 56) (.tmp 55) ?_ ?_ ?_ HP1.out ?_ ?_; rfl; rfl; rfl; rfl; rfl) | (refine wpList_loadW ?_ 68 (.tmp 4) ?_ ?_ HLD.out ?_ ?_; rfl; rfl; rfl; rfl) | (refine wpList_storeW ?_ 68 (.tmp 8) (.tmp 61) ?_ ?_ ?_ HST.out ?_ ?_; rfl; rfl; rfl; rfl; rfl))
      refine bodyPost_ret (res_ct rfl _ _ (w.heap.size + 1) 68 _ (0, 0) _ rfl HAT.out Try.underlying68 rfl HSZ.out) rfl ?_
      refine ⟨_, ?_, HQ.out, HBE.out⟩
      rfl
end Go.Proofs.Ythcnoamgkkbkcaa
