/- Chapter 15, replies: the reference: Read (43). -/
import Derived.Test.YthcnoamgkkbkcaaRpR5
namespace Go.Proofs.Ythcnoamgkkbkcaa
open Go.RowKit

theorem sO_some (l : List UInt8) : sO (some l) = ⟨l.toArray⟩ := rfl
theorem bO_some (l : List UInt8) : bO (some l) = false := rfl
theorem rEnd_none (k : Nat) (last : Int) (S : RS) : rEnd (rdAll k last none S) = none := by
  rcases h : rdAll k last none S with _ | ⟨x, _ | r⟩
  · rfl
  · unfold rEnd
    simp only
    rw [if_neg (by decide)]
  · exact absurd h (rdAll_none k last S)
theorem rRead_end (s : List UInt8) : rRead s = if (rByte (some s)).1 < 1 ∨ 16 < (rByte (some s)).1 ∨ (rInt (rByte (some s)).2).1 < 0 ∨ 64 < (rInt (rByte (some s)).2).1 then none else rEnd (rdAll (rInt (rByte (some s)).2).1.toNat (-1) (rInt (rByte (some s)).2).2 ⟨(rByte (some s)).1, fun _ => []⟩) := by
  unfold rRead
  by_cases hc : (rByte (some s)).1 < 1 ∨ 16 < (rByte (some s)).1 ∨ (rInt (rByte (some s)).2).1 < 0 ∨ 64 < (rInt (rByte (some s)).2).1
  · rw [if_pos hc, if_pos hc]
  · rw [if_neg hc, if_neg hc]
    rcases rdAll (rInt (rByte (some s)).2).1.toNat (-1) (rInt (rByte (some s)).2).2 ⟨(rByte (some s)).1, fun _ => []⟩ with _ | ⟨p, q⟩ <;> rfl
theorem shr_Es : ∀ {k : Nat} {last : Int} {σ : Option (List UInt8)} {acc x : List En} {τ : Option (List UInt8)}, Shr σ → rdEs k last σ acc = some (x, τ) → Shr τ
  | 0, last, σ, acc, x, τ, h, e => by
    simp only [rdEs, Option.some.injEq, Prod.mk.injEq] at e
    rw [← e.2]
    exact h
  | k + 1, last, σ, acc, x, τ, h, e => by
    rw [rdEs] at e
    split at e
    · exact shr_Es (shr_one h) e
    · cases e
theorem shr_C {room : Int} {σ : Option (List UInt8)} {l : List En} {r : List UInt8} (h : Shr σ) (e : some (l, r) = rfE (rdC room σ)) : Shr (some r) := by
  rcases h2 : rdC room σ with _ | ⟨x, _ | y⟩
  · rw [h2] at e
    cases e
  · rw [h2] at e
    cases e
  · rw [h2] at e
    cases e
    unfold rdC at h2
    split at h2
    · cases h2
    · exact shr_Es (shr_int h) h2
/-- One round of the reference's. -/
theorem rdAll_step (k : Nat) (last : Int) (t : List UInt8) (S : RS) (c : Int) (σ : Option (List UInt8)) (h1 : (rByte (some t)).1 = c) (h2 : (rByte (some t)).2 = σ) :
    rEnd (rdAll (k + 1) last (some t) S) = if c ≤ last ∨ 64 ≤ c then none else match rfE (rdC S.room σ) with
      | none => none
      | some (l, r) => rEnd (rdAll k c (some r) ⟨S.room, setL S.L c l⟩) := by
  rw [rdAll, h1, h2]
  by_cases hc : c ≤ last ∨ 64 ≤ c
  · rw [if_pos hc, if_pos hc]
    rfl
  · rw [if_neg hc, if_neg hc]
    rcases rdC S.room σ with _ | ⟨l, _ | r⟩
    · rfl
    · simp only [rfE]
      exact rEnd_none _ _ _
    · rfl
structure RdO (w : World) (b7 : Nat) (t : List UInt8) (C : Array Value) (S : RS) (W : World) : Prop where
  z : W.heap[w.heap.size]? = some (.cells Try.zeroCells68 68 (0, 0))
  x : W.heap[w.heap.size + 1]? = some (.cells #[.string ⟨t.toArray⟩, .bool false] 135 (0, 0))
  r : W.heap[b7]? = some (.cells C 68 (0, 0))
  q : QR W w.heap.size C S
  b : Below w.heap.size w W
theorem RdO.below {w W W' : World} {b7 : Nat} {t : List UInt8} {C : Array Value} {S : RS} (h : RdO w b7 t C S W) (hb : Below W.heap.size W W') : RdO w b7 t C S W' :=
  ⟨obj_below h.z hb, obj_below h.x hb, obj_below h.r hb, h.q.below hb, h.b.trans (hb.mono h.b.size)⟩
theorem endF {w W : World} (hz : W.heap[w.heap.size]? = some (.cells Try.zeroCells68 68 (0, 0))) (hb : Below w.heap.size w W) :
    (Instr.storeAt 68 (.pointer (some ⟨w.heap.size, 0, none⟩)) (.agg Try.zeroCells68)).run Try.prog W = .ok () (W.setRow w.heap.size Try.zeroCells68) ∧ (W.setRow w.heap.size Try.zeroCells68).heap[w.heap.size]? = some (.cells Try.zeroCells68 68 (0, 0)) ∧ Below w.heap.size w (W.setRow w.heap.size Try.zeroCells68) :=
  ⟨store68 (qr_zero w 0) (qr_zero w 0).sz hz, setRow_at' hz, hb.trans ((setRow_fr' _ _ _).below _ hb.size (fun j hj e => by omega))⟩
def rqPost (w : World) (o : Option RS) (e : Ending) (w' : World) : Prop :=
  Below w.heap.size w w' ∧ match o with
  | none => e = .returned (.tuple #[.agg Try.zeroCells68, .int .i64 3])
  | some S => ∃ C', e = .returned (.tuple #[.agg C', .int .i64 0]) ∧ QR w' w.heap.size C' S
def RqL (w : World) (b7 n : Nat) (room : Int) (o : Option RS) (wr : World) (lv iv : Value) : Prop :=
  ∃ (i : Nat) (lst : Int) (t : List UInt8) (C : Array Value) (S : RS), iv = .int .i64 (i : Int) ∧ lv = .int .i64 lst ∧ i ≤ n ∧ S.room = room ∧ rEnd (rdAll (n - i) lst (some t) S) = o ∧ RdO w b7 t C S wr ∧ Shr (some t)
set_option maxHeartbeats 32000000 in
set_option maxRecDepth 100000 in
theorem readQ_any {w : World} (s : ByteArray) (hl : s.data.toList.length ≤ 16777216) :
    Calls Try.prog 43 #[.string s] w fun e w' => rqPost w (rRead s.data.toList) e w' := by
  obtain ⟨t0, ht0⟩ : ∃ t, t = s.data.toList := ⟨_, rfl⟩
  have hst0 : s = ⟨t0.toArray⟩ := by rw [ht0]
  subst hst0
  rw [← ht0] at hl ⊢
  clear ht0
  have hs0 : Shr (some t0) := fun _ e => by cases e; exact hl
  have hs1 := shr_byte hs0
  have hs2 := shr_int hs1
  have hrd := rRead_end t0
  obtain ⟨o, ho⟩ : ∃ o, o = rRead t0 := ⟨_, rfl⟩
  rw [← ho] at hrd ⊢
  have HCB := hide (fun W => r3TakeByte_any (some t0) W)
  obtain ⟨rm, hrm⟩ : ∃ r, r = (rByte (some t0)).1 := ⟨_, rfl⟩
  obtain ⟨σ1, hσ1⟩ : ∃ r, r = (rByte (some t0)).2 := ⟨_, rfl⟩
  rw [← hrm, ← hσ1] at HCB hrd
  rw [← hσ1] at hs1 hs2
  have HCI := hide (fun W => r3TakeInt_any σ1 W (fun l e => by have := hs1 l e; omega))
  obtain ⟨N, hN⟩ : ∃ r, r = (rInt σ1).1 := ⟨_, rfl⟩
  obtain ⟨σ2, hσ2⟩ : ∃ r, r = (rInt σ1).2 := ⟨_, rfl⟩
  rw [← hN, ← hσ2] at HCI hrd
  rw [← hσ2] at hs2
  simp only [rdr_two] at HCB HCI
  have hal := ((Below.refl w.heap.size w).alloc (Nat.le_refl _) (.cells Try.zeroCells68 68)).alloc (by simp) (.cells #[.string ⟨t0.toArray⟩, .bool false] 135)
  have hz := obj_alloc (obj_new w (.cells Try.zeroCells68 68)) (.cells #[.string ⟨t0.toArray⟩, .bool false] 135)
  have hx := obj_new' w (.cells Try.zeroCells68 68) (.cells #[.string ⟨t0.toArray⟩, .bool false] 135)
  have HAL := hide hal
  have HZ := hide hz
  have HX := hide hx
  have HS2 := hide hs2
  have HRD := hide hrd
  clear hl hs0 hs1 hs2 hrd ho hrm hσ1 hN hσ2 hal hz hx
  simp only [sO_some, bO_some] at HCB
  go_enter Try.func43, Try.ntmps43
  go_wp2_with fail
  refine (HCB.out _).mono ?_
  rintro e w1 ⟨rfl, hb1⟩
  obtain ⟨w2, p1, x1, f1⟩ := put135 (obj_below HX.out hb1) rfl (sO σ1) (bO σ1)
  have hb1' := HAL.out.trans (hb1.mono HAL.out.size)
  have hb2 := hb1'.trans (f1.below _ hb1'.size (fun j hj e => by omega))
  have hz2 := f1.obj (obj_below HZ.out hb1) (by omega)
  have y0 := obj_cell x1 0
  have y1 := obj_cell x1 1
  simp only [List.getElem?_toArray, List.getElem?_cons_zero, List.getElem?_cons_succ] at y0 y1
  have P1 := hide p1
  have X1 := hide x1
  have HB2 := hide hb2
  have HZ2 := hide hz2
  clear hb1 p1 x1 f1 hb1' hb2 hz2
  go_wp2_with (refine wpList_storeW ?_ 135 (.tmp 4) (.tmp 20) ?_ ?_ ?_ P1.out ?_ ?_; rfl; rfl; rfl; rfl; rfl)
  refine (HCI.out w2).mono ?_
  rintro e w3 ⟨rfl, hb3⟩
  obtain ⟨w4, p2, x2, f2⟩ := put135 (obj_below X1.out hb3) rfl (sO σ2) (bO σ2)
  have hb3' := HB2.out.trans (hb3.mono HB2.out.size)
  have hb4 := hb3'.trans (f2.below _ hb3'.size (fun j hj e => by omega))
  have hz4 := f2.obj (obj_below HZ2.out hb3) (by omega)
  have y0 := obj_cell x2 0
  have y1 := obj_cell x2 1
  simp only [List.getElem?_toArray, List.getElem?_cons_zero, List.getElem?_cons_succ] at y0 y1
  have P2 := hide p2
  have X2 := hide x2
  have HB4 := hide hb4
  have HZ4 := hide hz4
  clear hb3 p2 x2 f2 hb3' hb4 hz4
  rcases σ2 with _ | t2
  · simp only [sO, bO] at P2 y0 y1
    have HNO := hide (show ∀ W : World, Below w.heap.size w W → rqPost w o (.returned (.tuple #[.agg Try.zeroCells68, .int .i64 3])) W from fun W hW => by
      rw [HRD.out]
      refine ⟨hW, ?_⟩
      by_cases hc : rm < 1 ∨ 16 < rm ∨ N < 0 ∨ 64 < N
      · rw [if_pos hc]
      · rw [if_neg hc, rEnd_none])
    obtain ⟨fst, fat, fbe⟩ := endF HZ4.out HB4.out
    have FST := hide fst
    have FAT := hide fat
    have FBE := hide fbe
    clear fst fat fbe
    clear HRD
    go_wp2_with (first | (refine wpList_storeW ?_ 135 (.tmp 4) (.tmp 25) ?_ ?_ ?_ P2.out ?_ ?_; rfl; rfl; rfl; rfl; rfl) | (refine wpList_storeW ?_ 68 (.tmp 2) (.tmp 45) ?_ ?_ ?_ FST.out ?_ ?_; rfl; rfl; rfl; rfl; rfl))
    refine bodyPost_ret (res_ct rfl _ _ w.heap.size 68 _ (0, 0) _ rfl FAT.out Try.underlying68 rfl (by rw [(qr_zero w 0).sz]; exact info68s)) rfl ?_
    exact HNO.out _ FBE.out
  simp only [sO, bO] at P2 y0 y1 X2
  by_cases hc : rm < 1 ∨ 16 < rm ∨ N < 0 ∨ 64 < N
  · have HNO := hide (show ∀ W : World, Below w.heap.size w W → rqPost w o (.returned (.tuple #[.agg Try.zeroCells68, .int .i64 3])) W from fun W hW => by
      rw [HRD.out, if_pos hc]
      exact ⟨hW, rfl⟩)
    obtain ⟨fst, fat, fbe⟩ := endF HZ4.out HB4.out
    have FST := hide fst
    have FAT := hide fat
    have FBE := hide fbe
    clear fst fat fbe
    clear HRD
    by_cases h1 : rm < 1
    · clear hc
      go_wp2_with (first | (refine wpList_storeW ?_ 135 (.tmp 4) (.tmp 25) ?_ ?_ ?_ P2.out ?_ ?_; rfl; rfl; rfl; rfl; rfl) | (refine wpList_storeW ?_ 68 (.tmp 2) (.tmp 45) ?_ ?_ ?_ FST.out ?_ ?_; rfl; rfl; rfl; rfl; rfl))
      refine bodyPost_ret (res_ct rfl _ _ w.heap.size 68 _ (0, 0) _ rfl FAT.out Try.underlying68 rfl (by rw [(qr_zero w 0).sz]; exact info68s)) rfl ?_
      exact HNO.out _ FBE.out
    by_cases h2 : 16 < rm
    · clear hc
      go_wp2_with (first | (refine wpList_storeW ?_ 135 (.tmp 4) (.tmp 25) ?_ ?_ ?_ P2.out ?_ ?_; rfl; rfl; rfl; rfl; rfl) | (refine wpList_storeW ?_ 68 (.tmp 2) (.tmp 45) ?_ ?_ ?_ FST.out ?_ ?_; rfl; rfl; rfl; rfl; rfl))
      refine bodyPost_ret (res_ct rfl _ _ w.heap.size 68 _ (0, 0) _ rfl FAT.out Try.underlying68 rfl (by rw [(qr_zero w 0).sz]; exact info68s)) rfl ?_
      exact HNO.out _ FBE.out
    by_cases h3 : N < 0
    · clear hc
      go_wp2_with (first | (refine wpList_storeW ?_ 135 (.tmp 4) (.tmp 25) ?_ ?_ ?_ P2.out ?_ ?_; rfl; rfl; rfl; rfl; rfl) | (refine wpList_storeW ?_ 68 (.tmp 2) (.tmp 45) ?_ ?_ ?_ FST.out ?_ ?_; rfl; rfl; rfl; rfl; rfl))
      refine bodyPost_ret (res_ct rfl _ _ w.heap.size 68 _ (0, 0) _ rfl FAT.out Try.underlying68 rfl (by rw [(qr_zero w 0).sz]; exact info68s)) rfl ?_
      exact HNO.out _ FBE.out
    have h4 : 64 < N := by omega
    clear hc
    go_wp2_with (first | (refine wpList_storeW ?_ 135 (.tmp 4) (.tmp 25) ?_ ?_ ?_ P2.out ?_ ?_; rfl; rfl; rfl; rfl; rfl) | (refine wpList_storeW ?_ 68 (.tmp 2) (.tmp 45) ?_ ?_ ?_ FST.out ?_ ?_; rfl; rfl; rfl; rfl; rfl))
    refine bodyPost_ret (res_ct rfl _ _ w.heap.size 68 _ (0, 0) _ rfl FAT.out Try.underlying68 rfl (by rw [(qr_zero w 0).sz]; exact info68s)) rfl ?_
    exact HNO.out _ FBE.out
  have h1 : ¬ rm < 1 := by omega
  have h2 : ¬ 16 < rm := by omega
  have h3 : ¬ N < 0 := by omega
  have h4 : ¬ 64 < N := by omega
  obtain ⟨n, rfl⟩ : ∃ n : Nat, N = (n : Int) := ⟨N.toNat, by omega⟩
  have HRE := hide (show rEnd (rdAll n (-1) (some t2) ⟨rm, fun _ => []⟩) = o from by rw [HRD.out, if_neg hc, Int.toNat_natCast])
  have HNQ := hide (newQ_any rm w4)
  rw [show min (max rm 1) 16 = rm by omega] at HNQ
  obtain ⟨C0, hC0⟩ : ∃ C, C = Try.zeroCells68.setIfInBounds 0 (.int .i64 rm) := ⟨_, rfl⟩
  rw [← hC0] at HNQ
  have HC0 := hide hC0
  have hrm16 : rm ≤ 16 := by omega
  clear hc HRD hC0
  go_wp2_with (refine wpList_storeW ?_ 135 (.tmp 4) (.tmp 25) ?_ ?_ ?_ P2.out ?_ ?_; rfl; rfl; rfl; rfl; rfl)
  refine HNQ.out.mono ?_
  rintro e w5 ⟨rfl, hb5⟩
  have hq5 : QR w5 w.heap.size C0 ⟨rm, fun _ => []⟩ := by rw [HC0.out]; exact qr_room _ _ _
  have hal := (Below.refl w5.heap.size w5).alloc (Nat.le_refl _) (.cells Try.zeroCells68 68)
  have hn := obj_new w5 (.cells Try.zeroCells68 68)
  have hst := store68 hq5 (qr_zero w 0).sz hn
  have F1 := setRow_fr' (w5.alloc (.cells Try.zeroCells68 68)) w5.heap.size C0
  have hn6 := setRow_at' (C' := C0) hn
  obtain ⟨w6, hw6⟩ : ∃ W, W = (w5.alloc (.cells Try.zeroCells68 68)).setRow w5.heap.size C0 := ⟨_, rfl⟩
  have hb6 : Below w4.heap.size w4 w6 := by rw [hw6]; exact (hb5.trans (hal.mono hb5.size)).trans (F1.below _ (by simp; have := hb5.size; omega) (fun j hj e => by have := hb5.size; omega))
  have hq6 : QR w6 w.heap.size C0 ⟨rm, fun _ => []⟩ := by
    rw [hw6]
    exact (hq5.below hal).fr F1 (fun j cs e _ e2 => by
      rw [e2, hn] at e
      simp only [Option.some.injEq, Obj.cells.injEq] at e
      exact absurd e.2.1 (by decide))
  rw [← hw6] at hst hn6
  obtain ⟨b7, hb7⟩ : ∃ b, b = w5.heap.size := ⟨_, rfl⟩
  have hb7g : w.heap.size + 1 < b7 := by have := obj_lt X2.out; have := hb5.size; omega
  rw [← hb7] at hn6
  have HL0 := hide (show RqL w b7 n rm o w6 (.int .i64 (-1)) (.int .i64 0) from ⟨0, -1, t2, C0, _, rfl, rfl, Nat.zero_le _, rfl, HRE.out, ⟨obj_below HZ4.out hb6, obj_below X2.out hb6, hn6, hq6, HB4.out.trans (hb6.mono HB4.out.size)⟩, HS2.out⟩)
  have HST := hide hst
  have HB7 := hide hb7
  have HBG := hide hb7g
  clear hb5 hq5 hal hn hst F1 hn6 hw6 hb6 hq6 hb7 hb7g y0 y1 X1 X2 HZ HX HAL HZ2 HZ4 HB2 HB4 HRE HS2 HNQ HCB HCI
  go_wp2_with (refine wpList_storeW ?_ 68 (.tmp 7) (.tmp 47) ?_ ?_ ?_ HST.out ?_ ?_; rfl; rfl; rfl; rfl; rfl)
  rw [← HB7.out]
  go_loopw [8, 9] (fun lv iv wr => RqL w b7 n rm o wr lv iv) (fun _ iv _ => n - (intOf iv).toNat)
  case atStart => exact HL0.out
  case round =>
    obtain ⟨i, lst, t, C, S, rfl, rfl, hi, hroom, hrd, hon, hs⟩ := hrel
    have HON := hide hon
    have xx0 := obj_cell hon.x 0
    have xx1 := obj_cell hon.x 1
    simp only [List.getElem?_toArray, List.getElem?_cons_zero, List.getElem?_cons_succ] at xx0 xx1
    rcases Nat.lt_or_ge i n with hin | hin
    · have hini : (i : Int) < (n : Int) := by omega
      obtain ⟨m, hm⟩ : ∃ m, n - i = m + 1 := ⟨n - i - 1, by omega⟩
      rw [hm, rdAll_step m lst t S _ _ rfl rfl, hroom] at hrd
      have hsb := shr_byte hs
      have hnn := rByte_nn (some t)
      have HCB := hide (fun W => r3TakeByte_any (some t) W)
      obtain ⟨c, hc⟩ : ∃ c, c = (rByte (some t)).1 := ⟨_, rfl⟩
      obtain ⟨σ', hσ'⟩ : ∃ c, c = (rByte (some t)).2 := ⟨_, rfl⟩
      rw [← hc, ← hσ'] at HCB hrd
      rw [← hσ'] at hsb
      rw [← hc] at hnn
      simp only [rdr_two] at HCB
      simp only [sO_some, bO_some] at HCB
      have HM := hide hm
      clear hon hs hc hσ' hm
      go_wp2_with fail
      refine (HCB.out wr).mono ?_
      rintro e w1 ⟨rfl, hb1⟩
      obtain ⟨w2, p8, x8, b8⟩ := new135 w1 (sO σ') (bO σ')
      have hb2 := hb1.trans (b8.mono hb1.size)
      have y0 := obj_cell x8 0
      have y1 := obj_cell x8 1
      simp only [List.getElem?_toArray, List.getElem?_cons_zero, List.getElem?_cons_succ] at y0 y1
      have P8 := hide p8
      have X8 := hide x8
      have HB2 := hide hb2
      clear hb1 p8 x8 b8 hb2
      rcases σ' with _ | t'
      · simp only [sO, bO] at P8 y0 y1
        have HNO := hide (show ∀ W : World, Below w.heap.size w W → rqPost w o (.returned (.tuple #[.agg Try.zeroCells68, .int .i64 3])) W from fun W hW => by
          rw [← hrd]
          refine ⟨hW, ?_⟩
          by_cases hc : c ≤ lst ∨ 64 ≤ c
          · rw [if_pos hc]
          · rw [if_neg hc, rdC_none]
            rfl)
        obtain ⟨fst, fat, fbe⟩ := endF (HON.out.below HB2.out).z (HON.out.below HB2.out).b
        have FST := hide fst
        have FAT := hide fat
        have FBE := hide fbe
        clear fst fat fbe
        go_wp2_with (first | (refine wpList_storeW ?_ 135 (.tmp 10) (.tmp 56) ?_ ?_ ?_ P8.out ?_ ?_; rfl; rfl; rfl; rfl; rfl) | (refine wpList_storeW ?_ 68 (.tmp 2) (.tmp 69) ?_ ?_ ?_ FST.out ?_ ?_; rfl; rfl; rfl; rfl; rfl))
        refine bodyPost_ret (res_ct rfl _ _ w.heap.size 68 _ (0, 0) _ rfl FAT.out Try.underlying68 rfl (by rw [(qr_zero w 0).sz]; exact info68s)) rfl ?_
        exact HNO.out _ FBE.out
      simp only [sO, bO] at P8 y0 y1 X8
      by_cases hcb : c ≤ lst ∨ 64 ≤ c
      · have HNO := hide (show ∀ W : World, Below w.heap.size w W → rqPost w o (.returned (.tuple #[.agg Try.zeroCells68, .int .i64 3])) W from fun W hW => by
          rw [← hrd, if_pos hcb]
          exact ⟨hW, rfl⟩)
        obtain ⟨fst, fat, fbe⟩ := endF (HON.out.below HB2.out).z (HON.out.below HB2.out).b
        have FST := hide fst
        have FAT := hide fat
        have FBE := hide fbe
        clear fst fat fbe
        by_cases h5 : c ≤ lst
        · clear hcb
          go_wp2_with (first | (refine wpList_storeW ?_ 135 (.tmp 10) (.tmp 56) ?_ ?_ ?_ P8.out ?_ ?_; rfl; rfl; rfl; rfl; rfl) | (refine wpList_storeW ?_ 68 (.tmp 2) (.tmp 69) ?_ ?_ ?_ FST.out ?_ ?_; rfl; rfl; rfl; rfl; rfl))
          refine bodyPost_ret (res_ct rfl _ _ w.heap.size 68 _ (0, 0) _ rfl FAT.out Try.underlying68 rfl (by rw [(qr_zero w 0).sz]; exact info68s)) rfl ?_
          exact HNO.out _ FBE.out
        have h6 : 64 ≤ c := by omega
        clear hcb
        go_wp2_with (first | (refine wpList_storeW ?_ 135 (.tmp 10) (.tmp 56) ?_ ?_ ?_ P8.out ?_ ?_; rfl; rfl; rfl; rfl; rfl) | (refine wpList_storeW ?_ 68 (.tmp 2) (.tmp 69) ?_ ?_ ?_ FST.out ?_ ?_; rfl; rfl; rfl; rfl; rfl))
        refine bodyPost_ret (res_ct rfl _ _ w.heap.size 68 _ (0, 0) _ rfl FAT.out Try.underlying68 rfl (by rw [(qr_zero w 0).sz]; exact info68s)) rfl ?_
        exact HNO.out _ FBE.out
      have h5 : ¬ c ≤ lst := by omega
      have h6 : ¬ 64 ≤ c := by omega
      rw [if_neg hcb] at hrd
      have HC5 := hide (oneQ_any (w := w2) hsb rm hrm16)
      simp only [rdr_two] at HC5
      simp only [sO_some, bO_some] at HC5
      obtain ⟨oo, hoo⟩ : ∃ oo, oo = rfE (rdC rm (some t')) := ⟨_, rfl⟩
      have hsr : ∀ l r, oo = some (l, r) → Shr (some r) := fun l r e => by
        exact shr_C hsb (e.symm.trans hoo)
      rw [← hoo] at HC5 hrd
      have HSR := hide hsr
      clear hcb hoo hsr hsb
      go_wp2_with (refine wpList_storeW ?_ 135 (.tmp 10) (.tmp 56) ?_ ?_ ?_ P8.out ?_ ?_; rfl; rfl; rfl; rfl; rfl)
      refine HC5.out.mono ?_
      rintro e w3 ⟨hb3, hcase⟩
      have hb3' := HB2.out.trans (hb3.mono HB2.out.size)
      rcases oo with _ | ⟨l, r⟩
      · obtain ⟨s9, b9, rfl⟩ := hcase
        obtain ⟨w4, p12, x12, b12⟩ := new135 w3 s9 b9
        have hb4 := hb3'.trans (b12.mono hb3'.size)
        have P12 := hide p12
        have HB2 := hide hb4
        clear hb3 hb3' p12 x12 b12 hb4 y0 y1
        have HNO := hide (show ∀ W : World, Below w.heap.size w W → rqPost w o (.returned (.tuple #[.agg Try.zeroCells68, .int .i64 3])) W from fun W hW => by
          rw [← hrd]
          exact ⟨hW, rfl⟩)
        obtain ⟨fst, fat, fbe⟩ := endF (HON.out.below HB2.out).z (HON.out.below HB2.out).b
        have FST := hide fst
        have FAT := hide fat
        have FBE := hide fbe
        clear fst fat fbe
        go_wp2_with (first | (refine wpList_storeW ?_ 135 (.tmp 12) (.tmp 74) ?_ ?_ ?_ P12.out ?_ ?_; rfl; rfl; rfl; rfl; rfl) | (refine wpList_storeW ?_ 68 (.tmp 2) (.tmp 79) ?_ ?_ ?_ FST.out ?_ ?_; rfl; rfl; rfl; rfl; rfl))
        refine bodyPost_ret (res_ct rfl _ _ w.heap.size 68 _ (0, 0) _ rfl FAT.out Try.underlying68 rfl (by rw [(qr_zero w 0).sz]; exact info68s)) rfl ?_
        exact HNO.out _ FBE.out
      obtain ⟨v, rfl, hrow⟩ := hcase
      obtain ⟨w4, p12, x12, b12⟩ := new135 w3 ⟨r.toArray⟩ false
      have hb4 := hb3'.trans (b12.mono hb3'.size)
      have hon4 := HON.out.below hb4
      obtain ⟨w5, p17, x17, f17⟩ := put135 hon4.x rfl ⟨r.toArray⟩ false
      have hz5 := f17.obj hon4.z (by omega)
      have hr5 := f17.obj hon4.r (by have := HBG.out; omega)
      have hq5 := hon4.q.fr f17 (fun j cs e _ e2 => by
        rw [e2, hon4.x] at e
        simp only [Option.some.injEq, Obj.cells.injEq] at e
        exact absurd e.2.1 (by decide))
      have hb5 : Below w.heap.size w w5 := hon4.b.trans (f17.below _ hon4.b.size (fun j hj e => by omega))
      have hrow4 := EK.row_below hrow b12
      have hrow5 := EK.row_fr hrow4 f17 (EK.row_ne_of hrow4 hon4.x (by decide))
      obtain ⟨A, cp, rfl⟩ := EK.row_slice hrow5
      obtain ⟨ll, hll⟩ : ∃ n, n = l.length := ⟨_, rfl⟩
      rw [← hll] at hrow5 ⊢
      obtain ⟨ci, rfl⟩ : ∃ ci : Nat, c = (ci : Int) := ⟨c.toNat, by omega⟩
      have hci : ci < 64 := by omega
      obtain ⟨v0, hv0, hsg0⟩ := hq5.L ci hci
      have zd := obj_cell hr5 (1 + ci)
      rw [hv0] at zd
      have td := obj_frozen hr5 (1 + ci)
      have F := (Fr.refl (fun j => j = b7) w5).setCell (p := ⟨b7, 1 + ci, none⟩) (fun _ => rfl) (.slice A ll cp)
      have hsg5 : kQ.sg w5 w.heap.size (.slice A ll cp) l := EK.sg_base (EK.row_sg hrow5) (Nat.le_trans HON.out.b.size HB2.out.size)
      have HRES := hide (show RqL w b7 n rm o (w5.setCell ⟨b7, 1 + ci, none⟩ (.slice A ll cp)) (.int .i64 (ci : Int)) (.int .i64 ((i : Int) + 1)) from ⟨i + 1, (ci : Int), r, C.setIfInBounds (1 + ci) (.slice A ll cp), ⟨S.room, setL S.L (ci : Int) l⟩, rfl, rfl, hin, hroom, by rw [show n - (i + 1) = m by have := HM.out; omega, hroom]; exact hrd,
        ⟨F.obj hz5 (by have := HBG.out; omega), F.obj x17 (by have := HBG.out; omega), obj_set hr5 (1 + ci) _, (QR.set hq5 hci hsg5).fr F (fun j cs e _ e2 => by
          rw [e2, hr5] at e
          simp only [Option.some.injEq, Obj.cells.injEq] at e
          exact absurd e.2.1 (by decide)), hb5.trans (F.below _ hb5.size (fun j hj e => by have := HBG.out; omega))⟩, HSR.out l r rfl⟩)
      have P12 := hide p12
      have P17 := hide p17
      have u0 := obj_cell x12 0
      have u1 := obj_cell x12 1
      simp only [List.getElem?_toArray, List.getElem?_cons_zero, List.getElem?_cons_succ] at u0 u1
      clear hb3 hb3' p12 x12 b12 hb4 hon4 p17 x17 f17 hz5 hr5 hq5 hb5 hrow hrow4 hrow5 hll hv0 hsg0 F hsg5 hrd y0 y1 HSR
      go_wp2_with (first | (refine wpList_storeW ?_ 135 (.tmp 12) (.tmp 74) ?_ ?_ ?_ P12.out ?_ ?_; rfl; rfl; rfl; rfl; rfl) | (refine wpList_storeW ?_ 135 (.tmp 4) (.tmp 80) ?_ ?_ ?_ P17.out ?_ ?_; rfl; rfl; rfl; rfl; rfl))
      exact ⟨HRES.out, by simp only [intOf]; omega⟩
    · have hie : i = n := by omega
      subst hie
      rw [Nat.sub_self, rdAll, rEnd] at hrd
      simp only at hrd
      have HCE := hide (fun W => end_any (some t) W)
      simp only [rdr_two] at HCE
      simp only [sO_some, bO_some] at HCE
      have hnl : ¬ (i : Int) < (i : Int) := by omega
      by_cases hd : rDone (some t) = 0
      · rw [if_pos hd] at hrd
        rw [hd] at HCE
        clear hd
        go_wp2_with fail
        refine (HCE.out wr).mono ?_
        rintro e w1 ⟨rfl, hb1⟩
        have hon1 := HON.out.below hb1
        have hld := load68 hon1.q hon1.r
        have hst := store68 hon1.q (qr_zero w 0).sz hon1.z
        have F := setRow_fr' w1 w.heap.size C
        have hat := setRow_at' (C' := C) hon1.z
        have hsz : (Try.prog.info? 68).map (·.size) = some C.size := by rw [hon1.q.sz]; exact info68s
        have HPO := hide (show rqPost w o (.returned (.tuple #[.agg C, .int .i64 0])) (w1.setRow w.heap.size C) from by
          rw [← hrd]
          exact ⟨hon1.b.trans (F.below _ hon1.b.size (fun j hj e => by omega)), C, rfl, hon1.q.fr F (fun j cs e _ e2 => by
            rw [e2, hon1.z] at e
            simp only [Option.some.injEq, Obj.cells.injEq] at e
            exact absurd e.2.1 (by decide))⟩)
        have HLD := hide hld
        have HST := hide hst
        have HAT := hide hat
        have HSZ := hide hsz
        clear hon1 hld hst F hat hsz hrd hb1 hon hs
        go_wp2_with (first | (refine wpList_loadW ?_ 68 (.tmp 7) ?_ ?_ HLD.out ?_ ?_; rfl; rfl; rfl; rfl) | (refine wpList_storeW ?_ 68 (.tmp 2) (.tmp 90) ?_ ?_ ?_ HST.out ?_ ?_; rfl; rfl; rfl; rfl; rfl))
        refine bodyPost_ret (res_ct rfl _ _ w.heap.size 68 _ (0, 0) _ rfl HAT.out Try.underlying68 rfl HSZ.out) rfl ?_
        exact HPO.out
      · rw [if_neg hd] at hrd
        have hdb : (rDone (some t) != 0) = true := by simpa using hd
        obtain ⟨dn, hdn⟩ : ∃ d, d = rDone (some t) := ⟨_, rfl⟩
        rw [← hdn] at HCE hdb
        clear hd hdn
        go_wp2_with fail
        refine (HCE.out wr).mono ?_
        rintro e w1 ⟨rfl, hb1⟩
        have HB2 := hide hb1
        have HNO := hide (show ∀ W : World, Below w.heap.size w W → rqPost w o (.returned (.tuple #[.agg Try.zeroCells68, .int .i64 3])) W from fun W hW => by
          rw [← hrd]
          exact ⟨hW, rfl⟩)
        obtain ⟨fst, fat, fbe⟩ := endF (HON.out.below HB2.out).z (HON.out.below HB2.out).b
        have FST := hide fst
        have FAT := hide fat
        have FBE := hide fbe
        clear fst fat fbe
        clear hb1 hon hs
        go_wp2_with (first | (refine wpList_storeW ?_ 68 (.tmp 2) (.tmp 89) ?_ ?_ ?_ FST.out ?_ ?_; rfl; rfl; rfl; rfl; rfl))
        refine bodyPost_ret (res_ct rfl _ _ w.heap.size 68 _ (0, 0) _ rfl FAT.out Try.underlying68 rfl (by rw [(qr_zero w 0).sz]; exact info68s)) rfl ?_
        exact HNO.out _ FBE.out
end Go.Proofs.Ythcnoamgkkbkcaa
