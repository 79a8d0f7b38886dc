/- Chapter 15, replies: the reference: one client's calls read (75). -/
import Derived.Test.YthcnoamgkkbkcaaRpR2
import Derived.Test.YthcnoamgkkbkcaaRef3b
namespace Go.Proofs.Ythcnoamgkkbkcaa
open Go.RowKit

def sO : Option (List UInt8) → ByteArray
  | some l => ⟨l.toArray⟩
  | none => ⟨#[]⟩
def bO : Option (List UInt8) → Bool
  | some _ => false
  | none => true
theorem rdr_two (σ : Option (List UInt8)) : rdrCells σ = #[.string (sO σ), .bool (bO σ)] := by cases σ <;> rfl
/-- What is left, if nothing failed. -/
def rfE : Option (List En × Option (List UInt8)) → Option (List En × List UInt8)
  | some (l, some r) => some (l, r)
  | _ => none
def lastId (acc : List En) : Int := match acc.getLast? with
  | some e => e.id
  | none => -1
theorem lastId_app (acc : List En) (e : En) : lastId (acc ++ [e]) = e.id := by unfold lastId; simp
theorem rfE_none (k : Nat) (last : Int) (acc : List En) : rfE (rdEs k last none acc) = none := by
  rcases h : rdEs k last none acc with _ | ⟨x, _ | r⟩
  · rfl
  · rfl
  · exact absurd h (rdEs_none k last acc)
structure OnS (w : World) (s : List UInt8) (acc : List En) (lv : Value) (W : World) : Prop where
  x : W.heap[w.heap.size]? = some (.cells #[.string ⟨s.toArray⟩, .bool false] 135 (0, 0))
  r : W.heap[w.heap.size + 1]? = some (.cells #[.string ⟨#[]⟩, .bool false] 135 (0, 0))
  l : kQ.row W w.heap.size lv acc
  b : Below w.heap.size w W
theorem OnS.below {w W W' : World} {s : List UInt8} {acc : List En} {lv : Value} (h : OnS w s acc lv W) (hb : Below W.heap.size W W') : OnS w s acc lv W' :=
  ⟨obj_below h.x hb, obj_below h.r hb, EK.row_below h.l hb, h.b.trans (hb.mono h.b.size)⟩
theorem info135 : (Try.prog.info? 135).map (·.size) = some 2 := by kernel_rfl
theorem put135 {W : World} {m : Nat} {cs : Array Value} (h : W.heap[m]? = some (.cells cs 135 (0, 0))) (hs : cs.size = 2) (s : ByteArray) (b : Bool) :
    ∃ W', (Instr.storeAt 135 (.pointer (some ⟨m, 0, none⟩)) (.agg #[.string s, .bool b])).run Try.prog W = .ok () W' ∧ W'.heap[m]? = some (.cells #[.string s, .bool b] 135 (0, 0)) ∧ Fr (fun j => j = m) W W' :=
  ⟨_, store_whole h (by rw [info135]; rfl) (by rw [hs]; rfl) (by simp [Value.oneCell']), setRow_at' h, setRow_fr' _ _ _⟩
theorem put113 (W : World) (id : Int) (b : Bool) (s : ByteArray) :
    ∃ W', (Instr.storeAt 113 (.pointer (some ⟨W.heap.size, 0, none⟩)) (.agg #[.int .i64 id, .bool b, .string s])).run Try.prog (W.alloc (.cells #[.int .i64 0, .bool false, .string ⟨#[]⟩] 113)) = .ok () W' ∧ W'.heap[W.heap.size]? = some (.cells #[.int .i64 id, .bool b, .string s] 113 (0, 0)) ∧ Below W.heap.size W W' :=
  ⟨_, store_whole (obj_new W _) (by rw [info113]; rfl) rfl (by simp [Value.oneCell']), setRow_at' (obj_new W _), ((Below.refl _ _).alloc (Nat.le_refl _) _).trans ((setRow_fr' _ _ _).below _ (by simp) (fun j hj e => by omega))⟩
theorem new135 (W : World) (s : ByteArray) (b : Bool) :
    ∃ W', (Instr.storeAt 135 (.pointer (some ⟨W.heap.size, 0, none⟩)) (.agg #[.string s, .bool b])).run Try.prog (W.alloc (.cells #[.string ⟨#[]⟩, .bool false] 135)) = .ok () W' ∧ W'.heap[W.heap.size]? = some (.cells #[.string s, .bool b] 135 (0, 0)) ∧ Below W.heap.size W W' :=
  ⟨_, store_whole (obj_new W _) (by rw [info135]; rfl) rfl (by simp [Value.oneCell']), setRow_at' (obj_new W _), ((Below.refl _ _).alloc (Nat.le_refl _) _).trans ((setRow_fr' _ _ _).below _ (by simp) (fun j hj e => by omega))⟩
def onePost (w : World) (o : Option (List En × List UInt8)) (e : Ending) (w' : World) : Prop :=
  Below w.heap.size w w' ∧ match o with
  | none => ∃ s b, e = .returned (.tuple #[.agg #[.string s, .bool b], .slice none 0 0, .bool false])
  | some (l, r) => ∃ v, e = .returned (.tuple #[.agg #[.string ⟨r.toArray⟩, .bool false], v, .bool true]) ∧ kQ.row w' w.heap.size v l
def OneL (w : World) (n : Nat) (o : Option (List En × List UInt8)) (wr : World) (lv iv : Value) : Prop :=
  ∃ (i : Nat) (acc : List En) (s : List UInt8), iv = .int .i64 (i : Int) ∧ i ≤ n ∧ acc.length = i ∧ OnS w s acc lv wr ∧ rfE (rdEs (n - i) (lastId acc) (some s) acc) = o ∧ Shr (some s)
theorem rfC_int {room : Int} {σ : Option (List UInt8)} {n : Int} {σ1 : Option (List UInt8)} (h1 : (rInt σ).1 = n) (h2 : (rInt σ).2 = σ1) : rdC room σ = if n < 1 ∨ room < n then none else rdEs n.toNat (-1) σ1 [] := by
  unfold rdC
  rw [h1, h2]
set_option maxHeartbeats 32000000 in
set_option maxRecDepth 100000 in
theorem oneQ_any {w : World} {σ : Option (List UInt8)} (hl : Shr σ) (room : Int) (hroom : room ≤ 16) :
    Calls Try.prog 75 #[.agg (rdrCells σ), .int .i64 room] w fun e w' => onePost w (rfE (rdC room σ)) e w' := by
  rw [rdr_two]
  have hs1 := shr_int hl
  have HC1 := hide (fun W => r3TakeInt_any σ W (fun l e => by have := hl l e; omega))
  have hrd := rfC_int (room := room) (σ := σ) rfl rfl
  obtain ⟨N, hN⟩ : ∃ n, n = (rInt σ).1 := ⟨_, rfl⟩
  obtain ⟨σ1, hσ1⟩ : ∃ s, s = (rInt σ).2 := ⟨_, rfl⟩
  rw [← hN, ← hσ1] at HC1 hrd
  rw [← hσ1] at hs1
  simp only [rdr_two] at HC1
  rw [hrd]
  obtain ⟨s0, hs0⟩ : ∃ s, s = sO σ := ⟨_, rfl⟩
  obtain ⟨b0, hb0⟩ : ∃ s, s = bO σ := ⟨_, rfl⟩
  rw [← hs0, ← hb0] at HC1 ⊢
  have hal := ((Below.refl w.heap.size w).alloc (Nat.le_refl _) (.cells #[.string s0, .bool b0] 135)).alloc (by simp) (.cells #[.string ⟨#[]⟩, .bool false] 135)
  have ho := obj_alloc (obj_new w (.cells #[.string s0, .bool b0] 135)) (.cells #[.string ⟨#[]⟩, .bool false] 135)
  have hp := obj_new' w (.cells #[.string s0, .bool b0] 135) (.cells #[.string ⟨#[]⟩, .bool false] 135)
  have HAL := hide hal
  have HO := hide ho
  have HP := hide hp
  have HS1 := hide hs1
  clear hl hN hσ1 hrd hs0 hb0 hal ho hp hs1
  obtain ⟨o, ho⟩ : ∃ o, o = rfE (if N < 1 ∨ room < N then none else rdEs N.toNat (-1) σ1 []) := ⟨_, rfl⟩
  rw [← ho]
  have HOO := hide ho
  clear ho
  go_enter Try.func75, Try.ntmps75
  go_wp2_with fail
  refine (HC1.out _).mono ?_
  rintro e w1 ⟨rfl, hb1⟩
  have hb1' := HAL.out.trans (hb1.mono HAL.out.size)
  obtain ⟨w2, hst, hx2, hf2⟩ := put135 (obj_below HO.out hb1) rfl (sO σ1) (bO σ1)
  have hr2 := hf2.obj (obj_below HP.out hb1) (by omega)
  have hb2 := hb1'.trans (hf2.below _ hb1'.size (fun j hj e => by omega))
  have HST := hide hst
  have HX2 := hide hx2
  have HR2 := hide hr2
  have HB2 := hide hb2
  have x0 := obj_cell hx2 0
  have x1 := obj_cell hx2 1
  have r0 := obj_cell hr2 0
  have r1 := obj_cell hr2 1
  have fr0 := obj_frozen hr2 0
  have fr1 := obj_frozen hr2 1
  simp only [List.getElem?_toArray, List.getElem?_cons_zero, List.getElem?_cons_succ] at x0 x1 r0 r1
  clear hb1 hb1' hst hx2 hf2 hr2 hb2
  rcases σ1 with _ | t1
  · have HNO := hide (show ∀ (W : World) (s : ByteArray) (b : Bool), Below w.heap.size w W → onePost w o (.returned (.tuple #[.agg #[.string s, .bool b], .slice none 0 0, .bool false])) W from fun W s b hW => by
      rw [HOO.out]
      refine ⟨hW, ?_⟩
      by_cases hc : N < 1 ∨ room < N
      · rw [if_pos hc]
        exact ⟨s, b, rfl⟩
      · rw [if_neg hc, rfE_none]
        exact ⟨s, b, rfl⟩)
    simp only [sO, bO] at HST x0 x1
    have HRR := HR2
    have HBE := HB2
    clear HOO
    go_wp2_with (refine wpList_storeW ?_ 135 (.tmp 2) (.tmp 19) ?_ ?_ ?_ HST.out ?_ ?_; rfl; rfl; rfl; rfl; rfl)
    refine bodyPost_ret (res_ctt rfl _ _ (w.heap.size + 1) 135 _ _ _ rfl (set_two _ _ _ _ _ _ HRR.out) Try.underlying135 rfl (by kernel_rfl)) rfl ?_
    exact HNO.out _ _ _ ((HBE.out.setCell (p := ⟨w.heap.size + 1, 0, none⟩) (by simp) _).setCell (p := ⟨w.heap.size + 1, 1, none⟩) (by simp) _)
  simp only [sO, bO] at HST x0 x1 HX2
  by_cases hc : N < 1 ∨ room < N
  · have HNO := hide (show ∀ (W : World) (s : ByteArray) (b : Bool), Below w.heap.size w W → onePost w o (.returned (.tuple #[.agg #[.string s, .bool b], .slice none 0 0, .bool false])) W from fun W s b hW => by
      rw [HOO.out, if_pos hc]
      exact ⟨hW, s, b, rfl⟩)
    have HRR := HR2
    have HBE := HB2
    clear HOO
    by_cases h1 : N < 1
    · clear hc
      go_wp2_with (refine wpList_storeW ?_ 135 (.tmp 2) (.tmp 19) ?_ ?_ ?_ HST.out ?_ ?_; rfl; rfl; rfl; rfl; rfl)
      refine bodyPost_ret (res_ctt rfl _ _ (w.heap.size + 1) 135 _ _ _ rfl (set_two _ _ _ _ _ _ HRR.out) Try.underlying135 rfl (by kernel_rfl)) rfl ?_
      exact HNO.out _ _ _ ((HBE.out.setCell (p := ⟨w.heap.size + 1, 0, none⟩) (by simp) _).setCell (p := ⟨w.heap.size + 1, 1, none⟩) (by simp) _)
    · have h2 : room < N := by omega
      clear hc
      go_wp2_with (refine wpList_storeW ?_ 135 (.tmp 2) (.tmp 19) ?_ ?_ ?_ HST.out ?_ ?_; rfl; rfl; rfl; rfl; rfl)
      refine bodyPost_ret (res_ctt rfl _ _ (w.heap.size + 1) 135 _ _ _ rfl (set_two _ _ _ _ _ _ HRR.out) Try.underlying135 rfl (by kernel_rfl)) rfl ?_
      exact HNO.out _ _ _ ((HBE.out.setCell (p := ⟨w.heap.size + 1, 0, none⟩) (by simp) _).setCell (p := ⟨w.heap.size + 1, 1, none⟩) (by simp) _)
  have h1 : ¬ N < 1 := by omega
  have h2 : ¬ room < N := by omega
  obtain ⟨n, rfl⟩ : ∃ n : Nat, N = (n : Int) := ⟨N.toNat, by omega⟩
  have hnb : n ≤ 16 := by omega
  have HL0 := hide (show OneL w n o w2 (.slice none 0 0) (.int .i64 0) from ⟨0, [], t1, rfl, Nat.zero_le _, rfl, ⟨HX2.out, HR2.out, EK.row_nil _ _, HB2.out⟩, by rw [HOO.out, if_neg hc, Int.toNat_natCast]; rfl, HS1.out⟩)
  clear hc HOO HS1 r0 r1 fr0 fr1 HX2 HR2 HB2 HO HP HAL HC1
  go_wp2_with (refine wpList_storeW ?_ 135 (.tmp 2) (.tmp 19) ?_ ?_ ?_ HST.out ?_ ?_; rfl; rfl; rfl; rfl; rfl)
  clear x0 x1
  go_loopw [8, 9] (fun lv iv wr => OneL w n o wr lv iv) (fun _ iv _ => n - (intOf iv).toNat)
  case atStart => exact HL0.out
  case round =>
    obtain ⟨i, acc, s, rfl, hi, hacc, hon, hrd, hs⟩ := hrel
    have HON := hide hon
    have xx0 := obj_cell hon.x 0
    have xx1 := obj_cell hon.x 1
    simp only [List.getElem?_toArray, List.getElem?_cons_zero, List.getElem?_cons_succ] at xx0 xx1
    rcases Nat.lt_or_ge i n with hin | hin
    · have hini : (i : Int) < (n : Int) := by omega
      obtain ⟨m, hm⟩ : ∃ m, n - i = m + 1 := ⟨n - i - 1, by omega⟩
      rw [hm, rdEs] at hrd
      have HCI := hide (fun W => r3TakeInt_any (some s) W (fun l e => by have := hs l e; omega))
      have hs1 := shr_int hs
      have hs2 := shr_byte hs1
      have hs3 := shr_text hs2
      have HS3 := hide (show Shr (oneR (some s)).2.2 from shr_one hs)
      have hnn := rByte_nn (rInt (some s)).2
      have hone : oneR (some s) = oneR (some s) := rfl
      unfold oneR at hone hrd HS3
      obtain ⟨id, hid⟩ : ∃ n, n = (rInt (some s)).1 := ⟨_, rfl⟩
      obtain ⟨σ1, hσ1⟩ : ∃ t, t = (rInt (some s)).2 := ⟨_, rfl⟩
      rw [← hσ1] at hs1 hs2 hs3 hnn
      rw [← hid, ← hσ1] at HCI hrd HS3
      have HCB := hide (fun W => r3TakeByte_any σ1 W)
      obtain ⟨bz, hbz⟩ : ∃ n, n = (rByte σ1).1 := ⟨_, rfl⟩
      obtain ⟨σ2, hσ2⟩ : ∃ t, t = (rByte σ1).2 := ⟨_, rfl⟩
      rw [← hbz] at hnn
      rw [← hσ2] at hs2 hs3
      rw [← hbz, ← hσ2] at HCB hrd HS3
      have HCT := hide (fun W => r3TakeText_any σ2 W (fun l e => by have := hs2 l e; omega))
      obtain ⟨tx, htx⟩ : ∃ t, t = (rText σ2).1 := ⟨_, rfl⟩
      obtain ⟨σ3, hσ3⟩ : ∃ t, t = (rText σ2).2 := ⟨_, rfl⟩
      rw [← htx, ← hσ3] at HCT hrd HS3
      have HMY := hide (fun W => mayQ_any 0 id W)
      simp only [rdr_two] at HCI HCB HCT
      have HIL : Hid (0 < i → ∃ (r cp : Nat), u8 = .slice (some ⟨r, 0, none⟩) i cp ∧ i ≤ cp ∧ cp ≤ maxLen ∧ wr.cell? ⟨r, (i - 1) * 3, none⟩ = some (.int .i64 (lastId acc))) := hide (fun h0 => by
        obtain ⟨r, cp, er, hr1, hr2, -, -, hcell⟩ := EK.row_cells hon.l (k := i - 1) (by omega)
        rw [hacc] at er hr1
        have q0 := hcell 0 (by decide)
        refine ⟨r, cp, er, hr1, hr2, ?_⟩
        have e1 : lastId acc = acc[i - 1].id := by
          unfold lastId
          rw [List.getLast?_eq_getElem?, show acc.length - 1 = i - 1 by rw [hacc], List.getElem?_eq_getElem (by omega)]
        rw [e1]
        exact q0)
      have HACC := hide hacc
      have HM := hide hm
      have HNB := hide hnb
      clear hon hs hs1 hs2 hs3 hid hσ1 hbz hσ2 htx hσ3 hm hone hacc
      by_cases hbz1 : bz = 1
      · subst hbz1
        rw [if_pos rfl] at hrd HS3
        simp only at hrd HS3
        go_wp2_with fail
        refine (HCI.out _).mono ?_
        rintro e w1 ⟨rfl, hb1⟩
        obtain ⟨w2, p8, x8, b8⟩ := new135 w1 (sO σ1) (bO σ1)
        have y0 := obj_cell x8 0
        have y1 := obj_cell x8 1
        simp only [List.getElem?_toArray, List.getElem?_cons_zero, List.getElem?_cons_succ] at y0 y1
        have P8 := hide p8
        have X8 := hide x8
        have HB2 := hide (hb1.trans (b8.mono hb1.size))
        have HZ1 := hide hb1.size
        have HZ2 := hide (obj_lt x8)
        clear hb1 p8 x8 b8
        go_wp2_with (refine wpList_storeW ?_ 135 (.tmp 10) (.tmp 41) ?_ ?_ ?_ P8.out ?_ ?_; rfl; rfl; rfl; rfl; rfl)
        refine (HCB.out w2).mono ?_
        rintro e w3 ⟨rfl, hb3⟩
        obtain ⟨w4, p9, x9, f9⟩ := put135 (obj_below X8.out hb3) rfl (sO σ2) (bO σ2)
        have hb4 := (HB2.out.trans (hb3.mono HB2.out.size)).trans (f9.below _ (Nat.le_trans HB2.out.size hb3.size) (fun j hj e => by have := HZ1.out; omega))
        obtain ⟨w5, p10, x10, b10⟩ := put113 w4 id true ⟨#[]⟩
        have hb5 := hb4.trans (b10.mono hb4.size)
        have hm10 := obj_below x9 b10
        have hne : ¬ w1.heap.size = w4.heap.size := by have := HZ2.out; have := hb3.size; have := f9.size; omega
        have hne2 : ¬ w.heap.size + 1 = w4.heap.size := by have := obj_lt HON.out.r; have := hb4.size; omega
        have P9 := hide p9
        have P10 := hide p10
        have HM10 := hide hm10
        have HM13 := hide x10
        have HB5 := hide hb5
        have y1 := obj_cell hm10 1
        have y0 := obj_cell hm10 0
        simp only [List.getElem?_toArray, List.getElem?_cons_zero, List.getElem?_cons_succ] at y0 y1
        have hz3 := HB2.out.size
        have HLT := hide (show w1.heap.size < w4.heap.size ∧ wr.heap.size ≤ w1.heap.size from ⟨by have := HZ2.out; have := hb3.size; have := f9.size; omega, HZ1.out⟩)
        clear hb3 p9 x9 f9 p10 x10 b10 hb4 hb5 hm10 hz3
        rcases σ2 with _ | s2
        · simp only [sO, bO] at P9 HM10 y0 y1
          have HNO := hide (show ∀ (W : World) (s : ByteArray) (b : Bool), Below w.heap.size w W → onePost w o (.returned (.tuple #[.agg #[.string s, .bool b], .slice none 0 0, .bool false])) W from fun W s b hW => by
            rw [← hrd]
            by_cases hc : decide (mayR 0 id) = true ∧ lastId acc < id
            · rw [if_pos hc, rfE_none]
              exact ⟨hW, s, b, rfl⟩
            · rw [if_neg hc]
              exact ⟨hW, s, b, rfl⟩)
          have hon := HON.out.below HB5.out
          have honr := HON.out.below HB5.out
          have r0 := obj_cell honr.r 0
          have r1 := obj_cell honr.r 1
          have fr0 := obj_frozen honr.r 0
          have fr1 := obj_frozen honr.r 1
          have v0 := obj_cell HM10.out 0
          have v1 := obj_cell HM10.out 1
          simp only [List.getElem?_toArray, List.getElem?_cons_zero, List.getElem?_cons_succ] at r0 r1 v0 v1
          have HRR := hide hon.r
          have HBE := hide hon.b
          clear hon honr
          go_wp2_with (first | (refine wpList_storeW ?_ 135 (.tmp 10) (.tmp 46) ?_ ?_ ?_ P9.out ?_ ?_; rfl; rfl; rfl; rfl; rfl) | (refine wpList_storeW ?_ 113 (.tmp 13) (.tmp 51) ?_ ?_ ?_ P10.out ?_ ?_; rfl; rfl; rfl; rfl; rfl))
          refine bodyPost_ret (res_ctt rfl _ _ (w.heap.size + 1) 135 _ _ _ rfl (set_two _ _ _ _ _ _ HRR.out) Try.underlying135 rfl (by kernel_rfl)) rfl ?_
          exact HNO.out _ _ _ ((HBE.out.setCell (p := ⟨w.heap.size + 1, 0, none⟩) (by simp) _).setCell (p := ⟨w.heap.size + 1, 1, none⟩) (by simp) _)
        simp only [sO, bO] at P9 HM10 y0 y1
        by_cases hmay : mayR 0 id
        rotate_left
        · have HNO := hide (show ∀ (W : World) (s : ByteArray) (b : Bool), Below w.heap.size w W → onePost w o (.returned (.tuple #[.agg #[.string s, .bool b], .slice none 0 0, .bool false])) W from fun W s b hW => by
            rw [← hrd]
            rw [if_neg (fun hh => hmay (of_decide_eq_true hh.1))]
            exact ⟨hW, s, b, rfl⟩)
          rw [decide_eq_false hmay] at HMY
          go_wp2_with (first | (refine wpList_storeW ?_ 135 (.tmp 10) (.tmp 46) ?_ ?_ ?_ P9.out ?_ ?_; rfl; rfl; rfl; rfl; rfl) | (refine wpList_storeW ?_ 113 (.tmp 13) (.tmp 51) ?_ ?_ ?_ P10.out ?_ ?_; rfl; rfl; rfl; rfl; rfl))
          refine (HMY.out _).mono ?_
          rintro e w9 ⟨rfl, rfl⟩
          have hon := HON.out.below HB5.out
          have honr := HON.out.below HB5.out
          have r0 := obj_cell honr.r 0
          have r1 := obj_cell honr.r 1
          have fr0 := obj_frozen honr.r 0
          have fr1 := obj_frozen honr.r 1
          have v0 := obj_cell HM10.out 0
          have v1 := obj_cell HM10.out 1
          simp only [List.getElem?_toArray, List.getElem?_cons_zero, List.getElem?_cons_succ] at r0 r1 v0 v1
          have HRR := hide hon.r
          have HBE := hide hon.b
          clear hon honr
          go_wp2
          refine bodyPost_ret (res_ctt rfl _ _ (w.heap.size + 1) 135 _ _ _ rfl (set_two _ _ _ _ _ _ HRR.out) Try.underlying135 rfl (by kernel_rfl)) rfl ?_
          exact HNO.out _ _ _ ((HBE.out.setCell (p := ⟨w.heap.size + 1, 0, none⟩) (by simp) _).setCell (p := ⟨w.heap.size + 1, 1, none⟩) (by simp) _)
        rw [decide_eq_true hmay] at HMY
        by_cases hlt : lastId acc < id
        rotate_left
        · have HNO := hide (show ∀ (W : World) (s : ByteArray) (b : Bool), Below w.heap.size w W → onePost w o (.returned (.tuple #[.agg #[.string s, .bool b], .slice none 0 0, .bool false])) W from fun W s b hW => by
            rw [← hrd]
            rw [if_neg (fun hh => hlt hh.2)]
            exact ⟨hW, s, b, rfl⟩)
          by_cases h0 : 0 < i
          · obtain ⟨r9, cp9, e9, hr9, hc9, hq9⟩ := HIL.out h0
            subst e9
            simp only [maxLen] at hc9
            obtain ⟨j, hj⟩ : ∃ j : Nat, (i : Int) - 1 = (j : Int) := ⟨i - 1, by omega⟩
            rw [show i - 1 = j by omega] at hq9
            have h0i : (0 : Int) < (i : Int) := by omega
            have hjj : (j : Int) < (i : Int) := by omega
            have hq9 := (HB5.out.cell (World.block_lt_of_cell? _ _ hq9)).trans hq9
            have hge : id ≤ lastId acc := by omega
            clear hlt
            go_wp2_with (first | (refine wpList_storeW ?_ 135 (.tmp 10) (.tmp 46) ?_ ?_ ?_ P9.out ?_ ?_; rfl; rfl; rfl; rfl; rfl) | (refine wpList_storeW ?_ 113 (.tmp 13) (.tmp 51) ?_ ?_ ?_ P10.out ?_ ?_; rfl; rfl; rfl; rfl; rfl))
            refine (HMY.out _).mono ?_
            rintro e w9 ⟨rfl, rfl⟩
            have kk2 := obj_cell HM13.out 2
            simp only [List.getElem?_toArray, List.getElem?_cons_zero, List.getElem?_cons_succ] at kk2
            have hon := HON.out.below HB5.out
            have honr := HON.out.below HB5.out
            have r0 := obj_cell honr.r 0
            have r1 := obj_cell honr.r 1
            have fr0 := obj_frozen honr.r 0
            have fr1 := obj_frozen honr.r 1
            have v0 := obj_cell HM10.out 0
            have v1 := obj_cell HM10.out 1
            simp only [List.getElem?_toArray, List.getElem?_cons_zero, List.getElem?_cons_succ] at r0 r1 v0 v1
            have HRR := hide hon.r
            have HBE := hide hon.b
            clear hon honr
            go_wp2
            refine bodyPost_ret (res_ctt rfl _ _ (w.heap.size + 1) 135 _ _ _ rfl (set_two _ _ _ _ _ _ HRR.out) Try.underlying135 rfl (by kernel_rfl)) rfl ?_
            exact HNO.out _ _ _ ((HBE.out.setCell (p := ⟨w.heap.size + 1, 0, none⟩) (by simp) _).setCell (p := ⟨w.heap.size + 1, 1, none⟩) (by simp) _)
          · exfalso
            have e1 : acc = [] := List.length_eq_zero_iff.1 (by rw [HACC.out]; omega)
            rw [e1] at hlt
            have e2 := hmay.2.2.1
            have e0 : lastId [] = -1 := rfl
            omega
        rw [if_pos ⟨decide_eq_true hmay, hlt⟩] at hrd
        have HBV := HB5
        have HMV := HM10
        have HKV := HM13
        have hon := HON.out.below HBV.out
        obtain ⟨w10, p17, x17, f17⟩ := put135 hon.x rfl (⟨s2.toArray⟩ : ByteArray) false
        have hb10 : Below w.heap.size w w10 := hon.b.trans (f17.below _ hon.b.size (fun j hj e => by omega))
        have hk10 := f17.obj HKV.out (by have := HLT.out; have := obj_lt HON.out.x; omega)
        have hr10 := f17.obj hon.r (by omega)
        have hl10 := EK.row_fr hon.l f17 (EK.row_ne_of hon.l hon.x (by decide))
        have hal := (Below.refl w10.heap.size w10).alloc (Nat.le_refl _) (.cells #[.int .i64 id, .bool true, .string ⟨#[]⟩] 113)
        obtain ⟨v4, w11, happ, hrow4, hf4, hbl4⟩ := EK.app (EK.row_below hl10 hal) (EK.rd_one (K := kQ) ⟨id, true, ⟨#[]⟩⟩ (obj_new w10 (.cells #[.int .i64 id, .bool true, .string ⟨#[]⟩] 113))) (by have := HACC.out; have := HNB.out; simp; omega) (by have := hal.size; have := hb10.size; omega) 65
        have hxx := obj_below x17 hal
        have hrr := obj_below hr10 hal
        have hll := EK.row_below hl10 hal
        have hon2 : OnS w s2 (acc ++ [⟨id, true, ⟨#[]⟩⟩]) v4 w11 := ⟨hf4.obj hxx (fun e => by
            obtain ⟨-, -, cs, h7⟩ := EK.row_typed hll e
            rw [hxx] at h7
            simp only [Option.some.injEq, Obj.cells.injEq] at h7
            exact absurd h7.2.1 (by decide)), hf4.obj hrr (fun e => by
            obtain ⟨-, -, cs, h7⟩ := EK.row_typed hll e
            rw [hrr] at h7
            simp only [Option.some.injEq, Obj.cells.injEq] at h7
            exact absurd h7.2.1 (by decide)), hrow4, (hb10.trans (hal.mono hb10.size)).trans (hf4.below _ (by have := hal.size; have := hb10.size; omega) (fun q hq e => (by
            have := (EK.row_typed hll e).1
            omega)))⟩
        have P17 := hide p17
        have HAPP := hide happ
        have v0 := obj_cell HMV.out 0
        have v1 := obj_cell HMV.out 1
        have k0 := obj_cell hk10 0
        have k1 := obj_cell hk10 1
        have k2 := obj_cell hk10 2
        have kk2 := obj_cell HKV.out 2
        simp only [List.getElem?_toArray, List.getElem?_cons_zero, List.getElem?_cons_succ] at v0 v1 k0 k1 k2 kk2
        have HRES := hide (show OneL w n o w11 v4 (.int .i64 ((i : Int) + 1)) from ⟨i + 1, _, s2, rfl, hin, by rw [List.length_append, HACC.out]; rfl, hon2, by rw [lastId_app, show n - (i + 1) = m by have := HM.out; omega]; exact hrd, HS3.out⟩)
        clear hon x17 f17 p17 hb10 hk10 hr10 hl10 hal happ hrow4 hf4 hbl4 hxx hrr hll hon2 hrd
        by_cases h0 : 0 < i
        · obtain ⟨r9, cp9, e9, hr9, hc9, hq9⟩ := HIL.out h0
          subst e9
          simp only [maxLen] at hc9
          obtain ⟨j, hj⟩ : ∃ j : Nat, (i : Int) - 1 = (j : Int) := ⟨i - 1, by omega⟩
          rw [show i - 1 = j by omega] at hq9
          have h0i : (0 : Int) < (i : Int) := by omega
          have hjj : (j : Int) < (i : Int) := by omega
          have hq9 := (HB5.out.cell (World.block_lt_of_cell? _ _ hq9)).trans hq9
          have hge : ¬ id ≤ lastId acc := by omega
          clear hlt
          go_wp2_with (first | (refine wpList_storeW ?_ 135 (.tmp 10) (.tmp 46) ?_ ?_ ?_ P9.out ?_ ?_; rfl; rfl; rfl; rfl; rfl) | (refine wpList_storeW ?_ 113 (.tmp 13) (.tmp 51) ?_ ?_ ?_ P10.out ?_ ?_; rfl; rfl; rfl; rfl; rfl))
          refine (HMY.out _).mono ?_
          rintro e w9 ⟨rfl, rfl⟩
          go_wp2_with (first | (refine wpList_storeW ?_ 135 (.tmp 2) (.tmp 94) ?_ ?_ ?_ P17.out ?_ ?_; rfl; rfl; rfl; rfl; rfl) | (at_builtin; refine wpList_append_run (v' := v4) (w' := w11) rfl (.tmp 95) (.tmp 97) 65 65 rfl rfl rfl HAPP.out ?_))
          exact ⟨HRES.out, by simp only [intOf]; omega⟩
        · obtain rfl : i = 0 := by omega
          go_wp2_with (first | (refine wpList_storeW ?_ 135 (.tmp 10) (.tmp 46) ?_ ?_ ?_ P9.out ?_ ?_; rfl; rfl; rfl; rfl; rfl) | (refine wpList_storeW ?_ 113 (.tmp 13) (.tmp 51) ?_ ?_ ?_ P10.out ?_ ?_; rfl; rfl; rfl; rfl; rfl))
          refine (HMY.out _).mono ?_
          rintro e w9 ⟨rfl, rfl⟩
          go_wp2_with (first | (refine wpList_storeW ?_ 135 (.tmp 2) (.tmp 94) ?_ ?_ ?_ P17.out ?_ ?_; rfl; rfl; rfl; rfl; rfl) | (at_builtin; refine wpList_append_run (v' := v4) (w' := w11) rfl (.tmp 95) (.tmp 97) 65 65 rfl rfl rfl HAPP.out ?_))
          exact ⟨HRES.out, by simp only [intOf]; omega⟩
      by_cases hbz0 : bz = 0
      · subst hbz0
        rw [if_neg (show ¬ (0 : Int) = 1 by decide), if_pos (rfl : (0 : Int) = 0)] at hrd HS3
        simp only at hrd HS3
        go_wp2_with fail
        refine (HCI.out _).mono ?_
        rintro e w1 ⟨rfl, hb1⟩
        obtain ⟨w2, p8, x8, b8⟩ := new135 w1 (sO σ1) (bO σ1)
        have y0 := obj_cell x8 0
        have y1 := obj_cell x8 1
        simp only [List.getElem?_toArray, List.getElem?_cons_zero, List.getElem?_cons_succ] at y0 y1
        have P8 := hide p8
        have X8 := hide x8
        have HB2 := hide (hb1.trans (b8.mono hb1.size))
        have HZ1 := hide hb1.size
        have HZ2 := hide (obj_lt x8)
        clear hb1 p8 x8 b8
        go_wp2_with (refine wpList_storeW ?_ 135 (.tmp 10) (.tmp 41) ?_ ?_ ?_ P8.out ?_ ?_; rfl; rfl; rfl; rfl; rfl)
        refine (HCB.out w2).mono ?_
        rintro e w3 ⟨rfl, hb3⟩
        obtain ⟨w4, p9, x9, f9⟩ := put135 (obj_below X8.out hb3) rfl (sO σ2) (bO σ2)
        have hb4 := (HB2.out.trans (hb3.mono HB2.out.size)).trans (f9.below _ (Nat.le_trans HB2.out.size hb3.size) (fun j hj e => by have := HZ1.out; omega))
        obtain ⟨w5, p10, x10, b10⟩ := put113 w4 id false ⟨#[]⟩
        have hb5 := hb4.trans (b10.mono hb4.size)
        have hm10 := obj_below x9 b10
        have hne : ¬ w1.heap.size = w4.heap.size := by have := HZ2.out; have := hb3.size; have := f9.size; omega
        have hne2 : ¬ w.heap.size + 1 = w4.heap.size := by have := obj_lt HON.out.r; have := hb4.size; omega
        have P9 := hide p9
        have P10 := hide p10
        have HM10 := hide hm10
        have HM13 := hide x10
        have HB5 := hide hb5
        have y1 := obj_cell hm10 1
        have y0 := obj_cell hm10 0
        simp only [List.getElem?_toArray, List.getElem?_cons_zero, List.getElem?_cons_succ] at y0 y1
        have hz3 := HB2.out.size
        have HLT := hide (show w1.heap.size < w4.heap.size ∧ wr.heap.size ≤ w1.heap.size from ⟨by have := HZ2.out; have := hb3.size; have := f9.size; omega, HZ1.out⟩)
        clear hb3 p9 x9 f9 p10 x10 b10 hb4 hb5 hm10 hz3
        obtain ⟨TX, hTX⟩ : ∃ t : ByteArray, t = ⟨tx.toArray⟩ := ⟨_, rfl⟩
        have hTXs : TX.size = tx.length := by rw [hTX]; rfl
        rw [← hTX] at HCT hrd
        clear hTX
        go_wp2_with (first | (refine wpList_storeW ?_ 135 (.tmp 10) (.tmp 46) ?_ ?_ ?_ P9.out ?_ ?_; rfl; rfl; rfl; rfl; rfl) | (refine wpList_storeW ?_ 113 (.tmp 13) (.tmp 51) ?_ ?_ ?_ P10.out ?_ ?_; rfl; rfl; rfl; rfl; rfl))
        refine (HCT.out w5).mono ?_
        rintro e w6 ⟨rfl, hb6⟩
        obtain ⟨w7, p12, x12, b12⟩ := new135 w6 (sO σ3) (bO σ3)
        obtain ⟨w8, p13, x13, f13⟩ := put135 (obj_below (obj_below HM10.out hb6) b12) rfl (sO σ3) (bO σ3)
        have h13 := f13.obj (obj_below (obj_below HM13.out hb6) b12) (fun e => hne e.symm)
        have hb7 := (HB5.out.trans (hb6.mono HB5.out.size)).trans (b12.mono (HB5.out.trans (hb6.mono HB5.out.size)).size)
        have hb8 := hb7.trans (f13.below _ hb7.size (fun j hj e => by have := HLT.out; omega))
        have FE := (Fr.refl (fun j => j = w4.heap.size) w8).setCell (p := ⟨w4.heap.size, 2, none⟩) (fun _ => rfl) (.string TX)
        have hm10E := FE.obj x13 hne
        have hm13E : (w8.setCell ⟨w4.heap.size, 2, none⟩ (.string TX)).heap[w4.heap.size]? = some (.cells #[.int .i64 id, .bool false, .string TX] 113 (0, 0)) := obj_set h13 2 (.string TX)
        have hbE : Below wr.heap.size wr (w8.setCell ⟨w4.heap.size, 2, none⟩ (.string TX)) := hb8.trans (FE.below _ hb8.size (fun j hj e => by have := HLT.out; omega))
        have a0 := obj_cell x12 0
        have a1 := obj_cell x12 1
        have z2 := obj_cell h13 2
        have fz2 := obj_frozen h13 2
        have e0 := obj_cell x13 0
        have e1 := obj_cell x13 1
        simp only [List.getElem?_toArray, List.getElem?_cons_zero, List.getElem?_cons_succ] at a0 a1 z2 e0 e1
        have P12 := hide p12
        have P13 := hide p13
        have hon8 := hide hb8
        clear hb6 p12 x12 b12 p13 x13 f13 h13 hb7 hb8 FE y0 y1
        rcases σ3 with _ | s2
        · simp only [sO, bO] at P12 P13 hm10E a0 a1 e0 e1
          have HNO := hide (show ∀ (W : World) (s : ByteArray) (b : Bool), Below w.heap.size w W → onePost w o (.returned (.tuple #[.agg #[.string s, .bool b], .slice none 0 0, .bool false])) W from fun W s b hW => by
            rw [← hrd]
            by_cases hc : decide (mayR 0 id ∧ tx.length ≤ 4096) = true ∧ lastId acc < id
            · rw [if_pos hc, rfE_none]
              exact ⟨hW, s, b, rfl⟩
            · rw [if_neg hc]
              exact ⟨hW, s, b, rfl⟩)
          have hon := HON.out.below hbE
          have honr := HON.out.below hon8.out
          have r0 := obj_cell honr.r 0
          have r1 := obj_cell honr.r 1
          have fr0 := obj_frozen honr.r 0
          have fr1 := obj_frozen honr.r 1
          simp only [List.getElem?_toArray, List.getElem?_cons_zero, List.getElem?_cons_succ] at r0 r1
          have HRR := hide hon.r
          have HBE := hide hon.b
          clear hon honr hbE hm10E hm13E
          go_wp2_with (first | (refine wpList_storeW ?_ 135 (.tmp 14) (.tmp 57) ?_ ?_ ?_ P12.out ?_ ?_; rfl; rfl; rfl; rfl; rfl) | (refine wpList_storeW ?_ 135 (.tmp 10) (.tmp 59) ?_ ?_ ?_ P13.out ?_ ?_; rfl; rfl; rfl; rfl; rfl))
          refine bodyPost_ret (res_ctt rfl _ _ (w.heap.size + 1) 135 _ _ _ rfl (set_two _ _ _ _ _ _ HRR.out) Try.underlying135 rfl (by kernel_rfl)) rfl ?_
          exact HNO.out _ _ _ ((HBE.out.setCell (p := ⟨w.heap.size + 1, 0, none⟩) (by simp) _).setCell (p := ⟨w.heap.size + 1, 1, none⟩) (by simp) _)
        simp only [sO, bO] at P12 P13 hm10E a0 a1 e0 e1
        by_cases hmay : mayR 0 id
        rotate_left
        · have HNO := hide (show ∀ (W : World) (s : ByteArray) (b : Bool), Below w.heap.size w W → onePost w o (.returned (.tuple #[.agg #[.string s, .bool b], .slice none 0 0, .bool false])) W from fun W s b hW => by
            rw [← hrd]
            rw [if_neg (fun hh => hmay (of_decide_eq_true hh.1).1)]
            exact ⟨hW, s, b, rfl⟩)
          rw [decide_eq_false hmay] at HMY
          go_wp2_with (first | (refine wpList_storeW ?_ 135 (.tmp 14) (.tmp 57) ?_ ?_ ?_ P12.out ?_ ?_; rfl; rfl; rfl; rfl; rfl) | (refine wpList_storeW ?_ 135 (.tmp 10) (.tmp 59) ?_ ?_ ?_ P13.out ?_ ?_; rfl; rfl; rfl; rfl; rfl))
          refine (HMY.out _).mono ?_
          rintro e w9 ⟨rfl, hw9⟩
          rw [hw9] at hbE hm10E hm13E
          have HBV := hide hbE
          have HMV := hide hm10E
          have HKV := hide hm13E
          clear hbE hm10E hm13E hw9 a0 a1 z2 fz2 e0 e1 hon8
          have hon := HON.out.below HBV.out
          have honr := HON.out.below HBV.out
          have r0 := obj_cell honr.r 0
          have r1 := obj_cell honr.r 1
          have fr0 := obj_frozen honr.r 0
          have fr1 := obj_frozen honr.r 1
          have v0 := obj_cell HMV.out 0
          have v1 := obj_cell HMV.out 1
          simp only [List.getElem?_toArray, List.getElem?_cons_zero, List.getElem?_cons_succ] at r0 r1 v0 v1
          have HRR := hide hon.r
          have HBE := hide hon.b
          clear hon honr
          go_wp2
          refine bodyPost_ret (res_ctt rfl _ _ (w.heap.size + 1) 135 _ _ _ rfl (set_two _ _ _ _ _ _ HRR.out) Try.underlying135 rfl (by kernel_rfl)) rfl ?_
          exact HNO.out _ _ _ ((HBE.out.setCell (p := ⟨w.heap.size + 1, 0, none⟩) (by simp) _).setCell (p := ⟨w.heap.size + 1, 1, none⟩) (by simp) _)
        rw [decide_eq_true hmay] at HMY
        by_cases hlen : tx.length ≤ 4096
        rotate_left
        · have HNO := hide (show ∀ (W : World) (s : ByteArray) (b : Bool), Below w.heap.size w W → onePost w o (.returned (.tuple #[.agg #[.string s, .bool b], .slice none 0 0, .bool false])) W from fun W s b hW => by
            rw [← hrd]
            rw [if_neg (fun hh => hlen (of_decide_eq_true hh.1).2)]
            exact ⟨hW, s, b, rfl⟩)
          have hli : (4096 : Int) < (TX.size : Int) := by omega
          clear hlen hTXs
          go_wp2_with (first | (refine wpList_storeW ?_ 135 (.tmp 14) (.tmp 57) ?_ ?_ ?_ P12.out ?_ ?_; rfl; rfl; rfl; rfl; rfl) | (refine wpList_storeW ?_ 135 (.tmp 10) (.tmp 59) ?_ ?_ ?_ P13.out ?_ ?_; rfl; rfl; rfl; rfl; rfl))
          refine (HMY.out _).mono ?_
          rintro e w9 ⟨rfl, hw9⟩
          rw [hw9] at hbE hm10E hm13E
          have HBV := hide hbE
          have HMV := hide hm10E
          have HKV := hide hm13E
          clear hbE hm10E hm13E hw9 a0 a1 z2 fz2 e0 e1 hon8
          have kk2 := obj_cell HKV.out 2
          simp only [List.getElem?_toArray, List.getElem?_cons_zero, List.getElem?_cons_succ] at kk2
          have hon := HON.out.below HBV.out
          have honr := HON.out.below HBV.out
          have r0 := obj_cell honr.r 0
          have r1 := obj_cell honr.r 1
          have fr0 := obj_frozen honr.r 0
          have fr1 := obj_frozen honr.r 1
          have v0 := obj_cell HMV.out 0
          have v1 := obj_cell HMV.out 1
          simp only [List.getElem?_toArray, List.getElem?_cons_zero, List.getElem?_cons_succ] at r0 r1 v0 v1
          have HRR := hide hon.r
          have HBE := hide hon.b
          clear hon honr
          go_wp2
          refine bodyPost_ret (res_ctt rfl _ _ (w.heap.size + 1) 135 _ _ _ rfl (set_two _ _ _ _ _ _ HRR.out) Try.underlying135 rfl (by kernel_rfl)) rfl ?_
          exact HNO.out _ _ _ ((HBE.out.setCell (p := ⟨w.heap.size + 1, 0, none⟩) (by simp) _).setCell (p := ⟨w.heap.size + 1, 1, none⟩) (by simp) _)
        have hli : ¬ (4096 : Int) < (TX.size : Int) := by omega
        by_cases hlt : lastId acc < id
        rotate_left
        · have HNO := hide (show ∀ (W : World) (s : ByteArray) (b : Bool), Below w.heap.size w W → onePost w o (.returned (.tuple #[.agg #[.string s, .bool b], .slice none 0 0, .bool false])) W from fun W s b hW => by
            rw [← hrd]
            rw [if_neg (fun hh => hlt hh.2)]
            exact ⟨hW, s, b, rfl⟩)
          by_cases h0 : 0 < i
          · clear hlen hTXs
            go_wp2_with (first | (refine wpList_storeW ?_ 135 (.tmp 14) (.tmp 57) ?_ ?_ ?_ P12.out ?_ ?_; rfl; rfl; rfl; rfl; rfl) | (refine wpList_storeW ?_ 135 (.tmp 10) (.tmp 59) ?_ ?_ ?_ P13.out ?_ ?_; rfl; rfl; rfl; rfl; rfl))
            refine (HMY.out _).mono ?_
            rintro e w9 ⟨rfl, hw9⟩
            rw [hw9] at hbE hm10E hm13E
            have HBV := hide hbE
            have HMV := hide hm10E
            have HKV := hide hm13E
            clear hbE hm10E hm13E hw9 a0 a1 z2 fz2 e0 e1 hon8
            obtain ⟨r9, cp9, e9, hr9, hc9, hq9⟩ := HIL.out h0
            subst e9
            simp only [maxLen] at hc9
            obtain ⟨j, hj⟩ : ∃ j : Nat, (i : Int) - 1 = (j : Int) := ⟨i - 1, by omega⟩
            rw [show i - 1 = j by omega] at hq9
            have h0i : (0 : Int) < (i : Int) := by omega
            have hjj : (j : Int) < (i : Int) := by omega
            have hq9 := (HBV.out.cell (World.block_lt_of_cell? _ _ hq9)).trans hq9
            have hge : id ≤ lastId acc := by omega
            clear hlt
            have kk2 := obj_cell HKV.out 2
            simp only [List.getElem?_toArray, List.getElem?_cons_zero, List.getElem?_cons_succ] at kk2
            have hon := HON.out.below HBV.out
            have honr := HON.out.below HBV.out
            have r0 := obj_cell honr.r 0
            have r1 := obj_cell honr.r 1
            have fr0 := obj_frozen honr.r 0
            have fr1 := obj_frozen honr.r 1
            have v0 := obj_cell HMV.out 0
            have v1 := obj_cell HMV.out 1
            simp only [List.getElem?_toArray, List.getElem?_cons_zero, List.getElem?_cons_succ] at r0 r1 v0 v1
            have HRR := hide hon.r
            have HBE := hide hon.b
            clear hon honr
            go_wp2
            refine bodyPost_ret (res_ctt rfl _ _ (w.heap.size + 1) 135 _ _ _ rfl (set_two _ _ _ _ _ _ HRR.out) Try.underlying135 rfl (by kernel_rfl)) rfl ?_
            exact HNO.out _ _ _ ((HBE.out.setCell (p := ⟨w.heap.size + 1, 0, none⟩) (by simp) _).setCell (p := ⟨w.heap.size + 1, 1, none⟩) (by simp) _)
          · exfalso
            have e1 : acc = [] := List.length_eq_zero_iff.1 (by rw [HACC.out]; omega)
            rw [e1] at hlt
            have e2 := hmay.2.2.1
            have e0 : lastId [] = -1 := rfl
            omega
        rw [if_pos ⟨decide_eq_true ⟨hmay, hlen⟩, hlt⟩] at hrd
        clear hlen hTXs
        go_wp2_with (first | (refine wpList_storeW ?_ 135 (.tmp 14) (.tmp 57) ?_ ?_ ?_ P12.out ?_ ?_; rfl; rfl; rfl; rfl; rfl) | (refine wpList_storeW ?_ 135 (.tmp 10) (.tmp 59) ?_ ?_ ?_ P13.out ?_ ?_; rfl; rfl; rfl; rfl; rfl))
        refine (HMY.out _).mono ?_
        rintro e w9 ⟨rfl, hw9⟩
        rw [hw9] at hbE hm10E hm13E
        have HBV := hide hbE
        have HMV := hide hm10E
        have HKV := hide hm13E
        clear hbE hm10E hm13E hw9 a0 a1 z2 fz2 e0 e1 hon8
        have hon := HON.out.below HBV.out
        obtain ⟨w10, p17, x17, f17⟩ := put135 hon.x rfl (⟨s2.toArray⟩ : ByteArray) false
        have hb10 : Below w.heap.size w w10 := hon.b.trans (f17.below _ hon.b.size (fun j hj e => by omega))
        have hk10 := f17.obj HKV.out (by have := HLT.out; have := obj_lt HON.out.x; omega)
        have hr10 := f17.obj hon.r (by omega)
        have hl10 := EK.row_fr hon.l f17 (EK.row_ne_of hon.l hon.x (by decide))
        have hal := (Below.refl w10.heap.size w10).alloc (Nat.le_refl _) (.cells #[.int .i64 id, .bool false, .string TX] 113)
        obtain ⟨v4, w11, happ, hrow4, hf4, hbl4⟩ := EK.app (EK.row_below hl10 hal) (EK.rd_one (K := kQ) ⟨id, false, TX⟩ (obj_new w10 (.cells #[.int .i64 id, .bool false, .string TX] 113))) (by have := HACC.out; have := HNB.out; simp; omega) (by have := hal.size; have := hb10.size; omega) 65
        have hxx := obj_below x17 hal
        have hrr := obj_below hr10 hal
        have hll := EK.row_below hl10 hal
        have hon2 : OnS w s2 (acc ++ [⟨id, false, TX⟩]) v4 w11 := ⟨hf4.obj hxx (fun e => by
            obtain ⟨-, -, cs, h7⟩ := EK.row_typed hll e
            rw [hxx] at h7
            simp only [Option.some.injEq, Obj.cells.injEq] at h7
            exact absurd h7.2.1 (by decide)), hf4.obj hrr (fun e => by
            obtain ⟨-, -, cs, h7⟩ := EK.row_typed hll e
            rw [hrr] at h7
            simp only [Option.some.injEq, Obj.cells.injEq] at h7
            exact absurd h7.2.1 (by decide)), hrow4, (hb10.trans (hal.mono hb10.size)).trans (hf4.below _ (by have := hal.size; have := hb10.size; omega) (fun q hq e => (by
            have := (EK.row_typed hll e).1
            omega)))⟩
        have P17 := hide p17
        have HAPP := hide happ
        have v0 := obj_cell HMV.out 0
        have v1 := obj_cell HMV.out 1
        have k0 := obj_cell hk10 0
        have k1 := obj_cell hk10 1
        have k2 := obj_cell hk10 2
        have kk2 := obj_cell HKV.out 2
        simp only [List.getElem?_toArray, List.getElem?_cons_zero, List.getElem?_cons_succ] at v0 v1 k0 k1 k2 kk2
        have HRES := hide (show OneL w n o w11 v4 (.int .i64 ((i : Int) + 1)) from ⟨i + 1, _, s2, rfl, hin, by rw [List.length_append, HACC.out]; rfl, hon2, by rw [lastId_app, show n - (i + 1) = m by have := HM.out; omega]; exact hrd, HS3.out⟩)
        clear hon x17 f17 p17 hb10 hk10 hr10 hl10 hal happ hrow4 hf4 hbl4 hxx hrr hll hon2 hrd
        by_cases h0 : 0 < i
        · obtain ⟨r9, cp9, e9, hr9, hc9, hq9⟩ := HIL.out h0
          subst e9
          simp only [maxLen] at hc9
          obtain ⟨j, hj⟩ : ∃ j : Nat, (i : Int) - 1 = (j : Int) := ⟨i - 1, by omega⟩
          rw [show i - 1 = j by omega] at hq9
          have h0i : (0 : Int) < (i : Int) := by omega
          have hjj : (j : Int) < (i : Int) := by omega
          have hq9 := (HBV.out.cell (World.block_lt_of_cell? _ _ hq9)).trans hq9
          have hge : ¬ id ≤ lastId acc := by omega
          clear hlt
          go_wp2_with (first | (refine wpList_storeW ?_ 135 (.tmp 2) (.tmp 94) ?_ ?_ ?_ P17.out ?_ ?_; rfl; rfl; rfl; rfl; rfl) | (at_builtin; refine wpList_append_run (v' := v4) (w' := w11) rfl (.tmp 95) (.tmp 97) 65 65 rfl rfl rfl HAPP.out ?_))
          exact ⟨HRES.out, by simp only [intOf]; omega⟩
        · obtain rfl : i = 0 := by omega
          go_wp2_with (first | (refine wpList_storeW ?_ 135 (.tmp 2) (.tmp 94) ?_ ?_ ?_ P17.out ?_ ?_; rfl; rfl; rfl; rfl; rfl) | (at_builtin; refine wpList_append_run (v' := v4) (w' := w11) rfl (.tmp 95) (.tmp 97) 65 65 rfl rfl rfl HAPP.out ?_))
          exact ⟨HRES.out, by simp only [intOf]; omega⟩
      · rw [if_neg hbz1, if_neg hbz0] at hrd
        have h2b : 1 < bz := by omega
        have hbz1b : (bz == 1) = false := by simpa using hbz1
        have hbz0b : (bz == 0) = false := by simpa using hbz0
        have HNO := hide (show ∀ (W : World) (s : ByteArray) (b : Bool), Below w.heap.size w W → onePost w o (.returned (.tuple #[.agg #[.string s, .bool b], .slice none 0 0, .bool false])) W from fun W s b hW => by
          rw [← hrd]
          rw [if_neg (fun hh => Bool.false_ne_true hh.1)]
          exact ⟨hW, s, b, rfl⟩)
        clear hbz1 hbz0
        go_wp2_with fail
        refine (HCI.out _).mono ?_
        rintro e w1 ⟨rfl, hb1⟩
        obtain ⟨w2, p8, x8, b8⟩ := new135 w1 (sO σ1) (bO σ1)
        have y0 := obj_cell x8 0
        have y1 := obj_cell x8 1
        simp only [List.getElem?_toArray, List.getElem?_cons_zero, List.getElem?_cons_succ] at y0 y1
        have P8 := hide p8
        have X8 := hide x8
        have HB2 := hide (hb1.trans (b8.mono hb1.size))
        have HZ1 := hide hb1.size
        have HZ2 := hide (obj_lt x8)
        clear hb1 p8 x8 b8
        go_wp2_with (refine wpList_storeW ?_ 135 (.tmp 10) (.tmp 41) ?_ ?_ ?_ P8.out ?_ ?_; rfl; rfl; rfl; rfl; rfl)
        refine (HCB.out w2).mono ?_
        rintro e w3 ⟨rfl, hb3⟩
        obtain ⟨w4, p9, x9, f9⟩ := put135 (obj_below X8.out hb3) rfl (sO σ2) (bO σ2)
        have hb4 := (HB2.out.trans (hb3.mono HB2.out.size)).trans (f9.below _ (Nat.le_trans HB2.out.size hb3.size) (fun j hj e => by have := HZ1.out; omega))
        obtain ⟨w5, p10, x10, b10⟩ := put113 w4 id false ⟨#[]⟩
        have hb5 := hb4.trans (b10.mono hb4.size)
        have hm10 := obj_below x9 b10
        have hne : ¬ w1.heap.size = w4.heap.size := by have := HZ2.out; have := hb3.size; have := f9.size; omega
        have hne2 : ¬ w.heap.size + 1 = w4.heap.size := by have := obj_lt HON.out.r; have := hb4.size; omega
        have P9 := hide p9
        have P10 := hide p10
        have HM10 := hide hm10
        have HM13 := hide x10
        have HB5 := hide hb5
        have y1 := obj_cell hm10 1
        have y0 := obj_cell hm10 0
        simp only [List.getElem?_toArray, List.getElem?_cons_zero, List.getElem?_cons_succ] at y0 y1
        have hz3 := HB2.out.size
        have HLT := hide (show w1.heap.size < w4.heap.size ∧ wr.heap.size ≤ w1.heap.size from ⟨by have := HZ2.out; have := hb3.size; have := f9.size; omega, HZ1.out⟩)
        clear hb3 p9 x9 f9 p10 x10 b10 hb4 hb5 hm10 hz3
        rcases σ2 with _ | s2
        · simp only [sO, bO] at P9 HM10 y0 y1
          have hon := HON.out.below HB5.out
          have honr := HON.out.below HB5.out
          have r0 := obj_cell honr.r 0
          have r1 := obj_cell honr.r 1
          have fr0 := obj_frozen honr.r 0
          have fr1 := obj_frozen honr.r 1
          have v0 := obj_cell HM10.out 0
          have v1 := obj_cell HM10.out 1
          simp only [List.getElem?_toArray, List.getElem?_cons_zero, List.getElem?_cons_succ] at r0 r1 v0 v1
          have HRR := hide hon.r
          have HBE := hide hon.b
          clear hon honr
          go_wp2_with (first | (refine wpList_storeW ?_ 135 (.tmp 10) (.tmp 46) ?_ ?_ ?_ P9.out ?_ ?_; rfl; rfl; rfl; rfl; rfl) | (refine wpList_storeW ?_ 113 (.tmp 13) (.tmp 51) ?_ ?_ ?_ P10.out ?_ ?_; rfl; rfl; rfl; rfl; rfl))
          refine bodyPost_ret (res_ctt rfl _ _ (w.heap.size + 1) 135 _ _ _ rfl (set_two _ _ _ _ _ _ HRR.out) Try.underlying135 rfl (by kernel_rfl)) rfl ?_
          exact HNO.out _ _ _ ((HBE.out.setCell (p := ⟨w.heap.size + 1, 0, none⟩) (by simp) _).setCell (p := ⟨w.heap.size + 1, 1, none⟩) (by simp) _)
        · simp only [sO, bO] at P9 HM10 y0 y1
          have hon := HON.out.below HB5.out
          have honr := HON.out.below HB5.out
          have r0 := obj_cell honr.r 0
          have r1 := obj_cell honr.r 1
          have fr0 := obj_frozen honr.r 0
          have fr1 := obj_frozen honr.r 1
          have v0 := obj_cell HM10.out 0
          have v1 := obj_cell HM10.out 1
          simp only [List.getElem?_toArray, List.getElem?_cons_zero, List.getElem?_cons_succ] at r0 r1 v0 v1
          have HRR := hide hon.r
          have HBE := hide hon.b
          clear hon honr
          go_wp2_with (first | (refine wpList_storeW ?_ 135 (.tmp 10) (.tmp 46) ?_ ?_ ?_ P9.out ?_ ?_; rfl; rfl; rfl; rfl; rfl) | (refine wpList_storeW ?_ 113 (.tmp 13) (.tmp 51) ?_ ?_ ?_ P10.out ?_ ?_; rfl; rfl; rfl; rfl; rfl))
          refine bodyPost_ret (res_ctt rfl _ _ (w.heap.size + 1) 135 _ _ _ rfl (set_two _ _ _ _ _ _ HRR.out) Try.underlying135 rfl (by kernel_rfl)) rfl ?_
          exact HNO.out _ _ _ ((HBE.out.setCell (p := ⟨w.heap.size + 1, 0, none⟩) (by simp) _).setCell (p := ⟨w.heap.size + 1, 1, none⟩) (by simp) _)
    · have hie : i = n := by omega
      subst hie
      rw [Nat.sub_self, rdEs, rfE] at hrd
      have hon := HON.out
      have r0 := obj_cell hon.r 0
      have r1 := obj_cell hon.r 1
      have fr0 := obj_frozen hon.r 0
      have fr1 := obj_frozen hon.r 1
      simp only [List.getElem?_toArray, List.getElem?_cons_zero, List.getElem?_cons_succ] at r0 r1
      have HRR := hide hon.r
      have hF := ((Fr.refl (fun j => j = w.heap.size + 1) wr).setCell (p := ⟨w.heap.size + 1, 0, none⟩) (fun _ => rfl) (.string ⟨s.toArray⟩)).setCell (p := ⟨w.heap.size + 1, 1, none⟩) (fun _ => rfl) (.bool false)
      have HPO := hide (show onePost w o (.returned (.tuple #[.agg #[.string ⟨s.toArray⟩, .bool false], u8, .bool true])) ((wr.setCell ⟨w.heap.size + 1, 0, none⟩ (.string ⟨s.toArray⟩)).setCell ⟨w.heap.size + 1, 1, none⟩ (.bool false)) from by
        rw [← hrd]
        exact ⟨hon.b.trans (hF.below _ hon.b.size (fun j hj e => by omega)), u8, rfl, EK.row_fr hon.l hF (EK.row_ne_of hon.l hon.r (by decide))⟩)
      have hnl : ¬ (i : Int) < (i : Int) := by omega
      clear hon hrd hs hF hacc
      go_wp2
      refine bodyPost_ret (res_ctt rfl _ _ (w.heap.size + 1) 135 _ _ _ rfl (set_two _ _ _ _ _ _ HRR.out) Try.underlying135 rfl (by kernel_rfl)) rfl ?_
      exact HPO.out
end Go.Proofs.Ythcnoamgkkbkcaa
