/- Chapter 14, calls: the reference: Due. -/
import Derived.Test.YthcnoamgkkbkcaaCaR4
import Derived.Test.YthcnoamgkkbkcaaOrd8
namespace Go.Proofs.Ythcnoamgkkbkcaa
open Go.RowKit

theorem want_yes {c : Prop} [Decidable c] {p q : Prop} (h : c) (hp : p) : if c then p else q := by rw [if_pos h]; exact hp
theorem want_no {c : Prop} [Decidable c] {p q : Prop} (h : ¬ c) (hq : q) : if c then p else q := by rw [if_neg h]; exact hq
def dL (S : CS) (X : List Tm) (now : Int) (i : Nat) : List Ck := (cRun S.me now ((X.map (·.id)).take i) S.L).1
def dM (S : CS) (X : List Tm) (now : Int) (i : Nat) : List Mg := (cRun S.me now ((X.map (·.id)).take i) S.L).2
def DrS (w : World) (S : CS) (X : List Tm) (now : Int) (NBX : Array Value) (n r2 c2 : Nat) (gk : Nat) (wr : World) (ov iv : Value) : Prop :=
  ∃ (i : Nat) (x : List Tm) (r : Int), gk + i = X.length ∧ iv = .int .i64 r ∧ FirstIs (dL S X now i) now r ∧ CD ⟨S.me, S.next, dL S X now i⟩ x (X.drop i) ∧ (∀ t ∈ x, now < t.at_) ∧
    kK.row wr w.heap.size (.slice (some ⟨r2, 0, none⟩) n c2) (dL S X now i) ∧ kM.row wr w.heap.size ov (dM S X now i) ∧ (dM S X now i).length ≤ i ∧
    wr.heap[w.heap.size]? = some (.cells NBX 29 (0, 0)) ∧ wr.heap[w.heap.size + 1]? = some (.cells #[.int .i64 0, .int .i64 0, .slice none 0 0] 29 (0, 0)) ∧ Below w.heap.size w wr
/-- One of those that are due. -/
theorem dStep {S : CS} {X : List Tm} {now : Int} {i j : Nat} {x t : List Tm} {d : Tm} (hnow : ¬ badN now) (hd : X.drop i = d :: t) (hcd : CD ⟨S.me, S.next, dL S X now i⟩ x (X.drop i)) (hx : ∀ t ∈ x, now < t.at_)
    (hj : j < (dL S X now i).length) (hid : (dL S X now i)[j].id = d.id) :
    dL S X now (i + 1) = (dL S X now i).set j (dueG now (dL S X now i)[j]) ∧ dM S X now (i + 1) = dM S X now i ++ dueM S.me (dL S X now i)[j] ∧
    ∃ x', CD ⟨S.me, S.next, dL S X now (i + 1)⟩ x' (X.drop (i + 1)) ∧ ∀ t ∈ x', now < t.at_ := by
  have hiX : i < X.length := by
    rcases Nat.lt_or_ge i X.length with h | h
    · exact h
    · rw [List.drop_eq_nil_of_le h] at hd
      cases hd
  have hdd := hd
  rw [List.drop_eq_getElem_cons hiX] at hdd
  injection hdd with e1 e2
  rw [hd] at hcd
  obtain ⟨k, hfk, hkL, hkid, hkst, hA, hB⟩ := hcd.one hnow
  simp only at hfk hkL hA hB
  have hids := hcd.ids
  simp only at hids
  have hkj : k = (dL S X now i)[j] := ids_inj hids hkL (List.getElem_mem hj) (by rw [hkid, hid])
  have hstep : cRun S.me now ((X.map (·.id)).take (i + 1)) S.L = (upd (dL S X now i) d.id (dueG now), dM S X now i ++ dueM S.me k) := by
    rw [cRun_succ S.me now (by simpa using hiX), List.getElem_map, e1]
    unfold cOne
    show (match fnd (dL S X now i) d.id with | none => _ | some k => _) = _
    rw [hfk]
    rfl
  have s1 : dL S X now (i + 1) = upd (dL S X now i) d.id (dueG now) := by
    unfold dL at hstep ⊢
    rw [hstep]
  have s2 : dM S X now (i + 1) = dM S X now i ++ dueM S.me k := by
    unfold dM at hstep ⊢
    rw [hstep]
  have hwt := wt_rng k.sent
  refine ⟨?_, by rw [s2, hkj], ?_⟩
  · rw [s1, ← hid, upd_set hids hj]
  · rw [s1, e2]
    by_cases h8 : 8 ≤ k.sent
    · exact ⟨x, hA h8, hx⟩
    · refine ⟨tIns x ⟨d.id, now + wt k.sent⟩, (hB h8).2, fun y hy => ?_⟩
      rcases List.mem_cons.1 ((tIns_perm x _).mem_iff.1 hy) with rfl | hy
      · simp only
        omega
      · exact hx y hy
def WtS (W wr : World) (s : Nat) (wv kv : Value) : Prop := ∃ q : Nat, kv = .int .i64 (q : Int) ∧ wv = .int .i64 (wt q) ∧ q ≤ s ∧ wr = W
def rdeA (b n r2 c2 j c : Nat) (now me nx r0 : Int) (A : Option Addr) (u x : Nat → Value) : Act := ⟨#[.agg #[.int .i64 me, .int .i64 nx, .slice A n c], .int .i64 now, .pointer (some ⟨b, 0, none⟩), undef, .pointer (some ⟨(b + 1), 0, none⟩), .slice none 0 0, .slice (some ⟨r2, 0, none⟩) n c2, x 21, .int .i64 (j : Int), u 9, u 10, .int .i64 now, .bool true, .bool false, undef, .pointer (some ⟨b, 2, none⟩), .slice A n c, .slice (some ⟨r2, 0, none⟩) n c2, .slice (some ⟨r2, 0, none⟩) n c2, .int .i64 now, .int .i64 r0, u 21, u 22, u 23, u 24, u 25, u 26, u 27, u 28, u 29, u 30, u 31, u 32, u 33, u 34, u 35, u 36, u 37, u 38, u 39, u 40, u 41, u 42, u 43, u 44, u 45, u 46, u 47, u 48, u 49, u 50, u 51, u 52, u 53, u 54, u 55, u 56, u 57, u 58, u 59, u 60, u 61, u 62, x 0, x 1, x 2, x 3, x 4, x 5, x 6, x 7, x 8, x 9, x 10, x 11, x 12, x 13, x 14, x 15, x 16, x 17, x 18, x 19, x 20, undef, undef, undef, undef], []⟩
def rdeV (b n r2 c2 j : Nat) (me kid kdst : Int) (kbody : ByteArray) (ou : Value) (qx : Nat) (qw : Value) : Prop :=
  match qx with
  | 0 => qw = ou
  | 1 => qw = .pointer (some ⟨b, 0, none⟩)
  | 2 => qw = .int .i64 me
  | 3 => qw = .slice (some ⟨r2, 0, none⟩) n c2
  | 4 => qw = .int .i64 (j : Int)
  | 5 => qw = .pointer (some ⟨r2, j * 7, none⟩)
  | 6 => qw = .pointer (some ⟨r2, j * 7 + 1, none⟩)
  | 7 => qw = .int .i64 kdst
  | 8 => qw = .slice (some ⟨r2, 0, none⟩) n c2
  | 9 => qw = .int .i64 (j : Int)
  | 10 => qw = .pointer (some ⟨r2, j * 7, none⟩)
  | 11 => qw = .pointer (some ⟨r2, j * 7, none⟩)
  | 12 => qw = .int .i64 kid
  | 13 => qw = .slice (some ⟨r2, 0, none⟩) n c2
  | 14 => qw = .int .i64 (j : Int)
  | 15 => qw = .pointer (some ⟨r2, j * 7, none⟩)
  | 16 => qw = .pointer (some ⟨r2, j * 7 + 5, none⟩)
  | 17 => qw = .string kbody
  | 18 => qw = .agg #[.int .i64 1, .int .i64 me, .int .i64 kdst, .int .i64 kid, .string kbody]
  | _ => True
set_option maxHeartbeats 16000000 in
set_option maxRecDepth 100000 in
theorem rdue_any {w : World} {B : Nat} {S : CS} {x : List Tm} {v : Value} (h : RC w B S v) (hB : B ≤ w.heap.size) (hk : COk S x) (hl : S.L.length ≤ 65536) (now : Int) :
    Calls Try.prog 18 #[v, .int .i64 now] w fun e w' => ∃ v' ov, e = .returned (.tuple #[v', ov]) ∧ RC w' B (cDue S x now).1 v' ∧ kM.row w' w.heap.size ov (cDue S x now).2 ∧ Below w.heap.size w w' := by
  obtain ⟨u, rfl, hu⟩ := h
  obtain ⟨A, c, rfl⟩ := EK.row_slice hu
  obtain ⟨me, nx, L⟩ := S
  unfold rC
  simp only at hu hl ⊢
  obtain ⟨n, hn⟩ : ∃ n, n = L.length := ⟨_, rfl⟩
  rw [← hn] at hu hl ⊢
  unfold cDue
  by_cases hb : badN now
  · rw [if_pos hb]
    simp only
    have HMO := hide (fun W => rmoment_no hb W)
    have hbx := ((Below.refl w.heap.size w).alloc (Nat.le_refl _) (.cells #[.int .i64 me, .int .i64 nx, .slice A n c] 29)).alloc (by simp) (.cells #[.int .i64 me, .int .i64 nx, .slice A n c] 29)
    have HFIN := hide (show RC ((w.alloc (.cells #[.int .i64 me, .int .i64 nx, .slice A n c] 29)).alloc (.cells #[.int .i64 me, .int .i64 nx, .slice A n c] 29)) B ⟨me, nx, L⟩ (.agg #[.int .i64 me, .int .i64 nx, .slice A n c]) ∧ Below w.heap.size w ((w.alloc (.cells #[.int .i64 me, .int .i64 nx, .slice A n c] 29)).alloc (.cells #[.int .i64 me, .int .i64 nx, .slice A n c] 29)) from ⟨⟨_, rfl, EK.row_below hu hbx⟩, hbx⟩)
    have HOO := hide (obj_new' w (.cells #[.int .i64 me, .int .i64 nx, .slice A n c] 29) (.cells #[.int .i64 me, .int .i64 nx, .slice A n c] 29))
    clear hu hn hbx hk hb
    go_enter Try.func18, Try.ntmps18
    go_wp2_with fail
    refine (HMO.out _).mono ?_
    rintro e wm ⟨rfl, rfl⟩
    go_wp2
    refine bodyPost_ret (res_ct rfl _ _ (w.heap.size + 1) 29 _ (0, 0) _ rfl HOO.out Try.underlying29 rfl info29) rfl ?_
    refine ⟨.agg #[.int .i64 me, .int .i64 nx, .slice A n c], .slice none 0 0, ?_, HFIN.out.1, EK.row_nil _ _, HFIN.out.2⟩
    rfl
  rw [if_neg hb]
  simp only
  have HMO := hide (fun W => rmoment_ok hb W)
  have HNB := hide hb
  obtain ⟨X, hX⟩ : ∃ X, X = x.filter fun t => decide (t.at_ ≤ now) := ⟨_, rfl⟩
  have hD : (tDue x now).2 = X.map (·.id) := by rw [hX]; rfl
  rw [hD]
  have hcd0 : CD ⟨me, nx, L⟩ (tDue x now).1 X := by rw [hX]; exact hk.cd now
  have HX0 := hide (show ∀ t ∈ (tDue x now).1, now < t.at_ from fun t ht => by simpa using (List.mem_filter.1 ht).2)
  have HXS := hide (show X.Pairwise Tlt from by rw [hX]; exact hk.tok.srt.filter _)
  have HXA := hide (show ∀ t ∈ X, t.at_ ≤ now from fun t ht => by rw [hX] at ht; simpa using (List.mem_filter.1 ht).2)
  have HXL := hide (show X.length ≤ 64 from by rw [hX]; exact Nat.le_trans (List.length_filter_le _ _) hk.tok.few)
  have eL0 : dL ⟨me, nx, L⟩ X now 0 = L := rfl
  have eM0 : dM ⟨me, nx, L⟩ X now 0 = [] := rfl
  have HEND := hide (show (cRun me now (X.map (·.id)) L) = (dL ⟨me, nx, L⟩ X now X.length, dM ⟨me, nx, L⟩ X now X.length) from by
    unfold dL dM
    rw [List.take_of_length_le (by rw [List.length_map]; exact Nat.le_refl _)])
  have hal := ((Below.refl w.heap.size w).alloc (Nat.le_refl _) (.cells #[.int .i64 me, .int .i64 nx, .slice A n c] 29)).alloc (by simp) (.cells #[.int .i64 0, .int .i64 0, .slice none 0 0] 29)
  obtain ⟨W, hW⟩ : ∃ W, W = (w.alloc (.cells #[.int .i64 me, .int .i64 nx, .slice A n c] 29)).alloc (.cells #[.int .i64 0, .int .i64 0, .slice none 0 0] 29) := ⟨_, rfl⟩
  have hO := obj_alloc (obj_new w (.cells #[.int .i64 me, .int .i64 nx, .slice A n c] 29)) (.cells #[.int .i64 0, .int .i64 0, .slice none 0 0] 29)
  have hP := obj_new' w (.cells #[.int .i64 me, .int .i64 nx, .slice A n c] 29) (.cells #[.int .i64 0, .int .i64 0, .slice none 0 0] 29)
  rw [← hW] at hal hO hP
  obtain ⟨v2, w2, happ, hrow2, hf2, hbl2⟩ := EK.app (EK.row_nil (K := kK) W W.heap.size) (EK.row_rd (EK.row_below hu hal)) (by simp; omega) (Nat.le_refl _) 27
  rw [List.nil_append] at hrow2
  have hB2 : Below W.heap.size W w2 := hf2.below _ (Nat.le_refl _) (fun i _ e => by cases e)
  have hWs : w.heap.size ≤ W.heap.size := hal.size
  obtain ⟨A2, c2, e2⟩ := EK.row_slice hrow2
  rw [← hn] at e2
  have HFI := hide (rfirst_any hrow2 (by omega) now)
  have hO2 := obj_below hO hB2
  have hP2 := obj_below hP hB2
  have hb2 := hal.trans (hB2.mono hWs)
  have HBS := hide hB
  have HCD0 := hide hcd0
  have HN := hide (show n = L.length ∧ n ≤ 65536 from ⟨hn, by omega⟩)
  have HR2 := hide (EK.row_base hrow2 hWs)
  have HO2 := hide hO2
  have HP2 := hide hP2
  have HB2 := hide hb2
  have HAPP : Hid ((Builtin.append_ #[27, 27] 27 #[.slice none 0 0, .slice A n c]).run Try.prog ((w.alloc (.cells #[.int .i64 me, .int .i64 nx, .slice A n c] 29)).alloc (.cells #[.int .i64 0, .int .i64 0, .slice none 0 0] 29)) = .ok v2 w2) := hide (by rw [← hW]; exact happ)
  have HBL2 := hide hbl2
  subst e2
  clear hu hk hb hX hD hcd0 hal hO hP happ hrow2 hf2 hbl2 hB2 hWs hO2 hP2 hb2 hn hB hW
  go_enter Try.func18, Try.ntmps18
  go_wp2_with fail
  refine (HMO.out _).mono ?_
  rintro e wm ⟨rfl, rfl⟩
  go_wp2_with (refine wpList_append_run (v' := .slice A2 n c2) (w' := w2) rfl (.const (.slice none 0 0)) (.tmp 16) 27 27 rfl rfl rfl ?_ ?_; exact HAPP.out)
  refine HFI.out.mono ?_
  rintro e w3 ⟨r0, rfl, hfi, hb3⟩
  have HS := hide (show kK.row w3 w.heap.size (.slice A2 n c2) L ∧ FirstIs L now r0 ∧ w3.heap[w.heap.size]? = some (.cells #[.int .i64 me, .int .i64 nx, .slice A n c] 29 (0, 0)) ∧ w3.heap[w.heap.size + 1]? = some (.cells #[.int .i64 0, .int .i64 0, .slice none 0 0] 29 (0, 0)) ∧ Below w.heap.size w w3 from
    ⟨EK.row_below HR2.out hb3, hfi, obj_below HO2.out hb3, obj_below HP2.out hb3, HB2.out.trans (hb3.mono HB2.out.size)⟩)
  clear hfi hb3 HMO HAPP HFI HR2 HO2 HP2 HB2
  rcases A2 with _ | ⟨r2, o2, q2⟩
  · have hL0 : L = [] := by
      rcases HS.out.1.2 with ⟨e, h0⟩ | ⟨g, cap, cur, e, -⟩
      · exact List.length_eq_zero_iff.1 h0
      · cases e
    have hn0 : n = 0 := by rw [HN.out.1, hL0]; rfl
    subst hn0
    have hr0 : r0 = -1 := by
      rcases HS.out.2.1 with ⟨e, -⟩ | ⟨j, hj, -⟩
      · exact e
      · rw [hL0] at hj
        simp at hj
    subst hr0
    have hXn : X = [] := by
      rcases X with _ | ⟨t, X⟩
      · rfl
      · obtain ⟨k, hk, -⟩ := tms_mem.1 (HCD0.out.per.mem_iff.1 (List.mem_append_right _ (List.mem_cons_self ..)))
        rw [hL0] at hk
        cases hk
    have HEND := hide (show (cRun me now (X.map (·.id)) L) = (L, []) from by rw [hXn]; rfl)
    clear hL0 hXn
    obtain ⟨hr3, -, hO3, hP3, hB3⟩ := HS.out
    go_wp2_with fail
    go_loopg [7, 8] 0 (fun _ ov iv wr => ov = .slice none 0 0 ∧ iv = .int .i64 (-1) ∧ wr = w3)
    case atStart => exact ⟨rfl, rfl, rfl⟩
    case round =>
    obtain ⟨rfl, rfl, hwr⟩ := hrel
    subst hwr
    have hm3 := EK.row_nil (K := kM) wr w.heap.size
    have F5 := (Fr.refl (fun i => i = w.heap.size) wr).setCell (p := ⟨w.heap.size, 2, none⟩) (fun _ => rfl) (.slice none 0 c2)
    have hO5 := obj_set hO3 2 (.slice none 0 c2)
    have hP5 := F5.obj hP3 (by omega)
    have hr5 := EK.row_fr hr3 F5 (EK.row_ne_of hr3 hO3 (by decide))
    have hm5 := EK.row_fr hm3 F5 (EK.row_ne_of hm3 hO3 (by decide))
    have hb5 := hB3.trans (F5.below _ hB3.size (fun i hi e => by omega))
    simp only [List.setIfInBounds_toArray, List.set_cons_succ, List.set_cons_zero] at hO5
    have HST := hide (store_whole (P := Try.prog) (ty := 29) hP5 (cells := #[.int .i64 me, .int .i64 nx, .slice none 0 c2]) info29 rfl (by simp [Value.oneCell']))
    have F6 := setRow_fr' (wr.setCell ⟨w.heap.size, 2, none⟩ (.slice none 0 c2)) (w.heap.size + 1) #[.int .i64 me, .int .i64 nx, .slice none 0 c2]
    have HFIN := hide (show RC ((wr.setCell ⟨w.heap.size, 2, none⟩ (.slice none 0 c2)).setRow (w.heap.size + 1) #[.int .i64 me, .int .i64 nx, .slice none 0 c2]) B ⟨me, nx, (cRun me now (X.map (·.id)) L).1⟩ (.agg #[.int .i64 me, .int .i64 nx, .slice none 0 c2]) ∧ kM.row ((wr.setCell ⟨w.heap.size, 2, none⟩ (.slice none 0 c2)).setRow (w.heap.size + 1) #[.int .i64 me, .int .i64 nx, .slice none 0 c2]) w.heap.size (.slice none 0 0) (cRun me now (X.map (·.id)) L).2 ∧ Below w.heap.size w ((wr.setCell ⟨w.heap.size, 2, none⟩ (.slice none 0 c2)).setRow (w.heap.size + 1) #[.int .i64 me, .int .i64 nx, .slice none 0 c2]) from
      ⟨⟨_, rfl, by rw [HEND.out]; exact EK.row_base (EK.row_fr hr5 F6 (EK.row_ne_of hr5 hP5 (by decide))) HBS.out⟩, by rw [HEND.out]; exact EK.row_fr hm5 F6 (EK.row_ne_of hm5 hP5 (by decide)), hb5.trans (F6.below _ hb5.size (fun i hi e => by omega))⟩)
    have HOO := hide (setRow_at' (C' := #[.int .i64 me, .int .i64 nx, .slice none 0 c2]) hP5)
    have z0 := obj_cell hO3 0
    have z1 := obj_cell hO3 1
    have z2 := obj_cell hO3 2
    have tz := obj_frozen hO3 2
    have k0 := obj_cell hO5 0
    have k1 := obj_cell hO5 1
    have k2 := obj_cell hO5 2
    simp only [List.getElem?_toArray, List.getElem?_cons_zero, List.getElem?_cons_succ] at z0 z1 z2 k0 k1 k2
    clear F5 hO5 hP5 hr5 hm5 hb5 F6 hr3 hO3 hP3 hB3 hm3 eL0 eM0
    go_wp2_with (refine wpList_storev' (w' := (wr.setCell ⟨w.heap.size, 2, none⟩ (.slice none 0 c2)).setRow (w.heap.size + 1) #[.int .i64 me, .int .i64 nx, .slice none 0 c2]) rfl 29 (.tmp 4) (.tmp 86) rfl rfl rfl ?_ ?_; exact HST.out)
    refine bodyPost_ret (res_ct rfl _ _ (w.heap.size + 1) 29 _ (0, 0) _ rfl HOO.out Try.underlying29 rfl info29) rfl ?_
    have HX := HFIN.out
    refine ⟨.agg #[.int .i64 me, .int .i64 nx, .slice none 0 c2], .slice none 0 0, ?_, HX⟩
    rfl

  obtain ⟨rfl, rfl⟩ : o2 = 0 ∧ q2 = none := by
    rcases HS.out.1.2 with ⟨e, h0⟩ | ⟨g, cap, cur, e, -⟩
    · cases e
    · injection e with e
      injection e with e
      injection e with e1 e2 e3
      exact ⟨e2, e3⟩
  have HS0 := hide (show DrS w ⟨me, nx, L⟩ X now #[.int .i64 me, .int .i64 nx, .slice A n c] n r2 c2 X.length w3 (.slice none 0 0) (.int .i64 r0) from
    ⟨0, (tDue x now).1, r0, rfl, rfl, HS.out.2.1, HCD0.out, HX0.out, HS.out.1, EK.row_nil _ _, Nat.le_refl _, HS.out.2.2.1, HS.out.2.2.2.1, HS.out.2.2.2.2⟩)
  clear HS HCD0 HX0 eL0 eM0
  go_wp2_with fail
  go_loopg [7, 8] X.length (fun gk ov iv wr => DrS w ⟨me, nx, L⟩ X now #[.int .i64 me, .int .i64 nx, .slice A n c] n r2 c2 gk wr ov iv)
  case atStart => exact HS0.out
  case round =>
    obtain ⟨i, x1, r, hgk, rfl, hfi, hcd, hx1, hrow, hmr, hml, hO, hP, hbw⟩ := hrel
    have hxs : (X.drop i).Pairwise Tlt := HXS.out.sublist (List.drop_sublist _ _)
    have hxa : ∀ t ∈ X.drop i, t.at_ ≤ now := fun t ht => HXA.out t (List.mem_of_mem_drop ht)
    rcases first_is hcd hx1 hxa hxs hfi with ⟨hnil, rfl⟩ | ⟨d, t, hdt, j, hj, rfl, hid, hst⟩
    · have hi : i = X.length := by
        have := List.drop_eq_nil_iff.1 hnil
        omega
      subst hi
      have F5 := (Fr.refl (fun i => i = w.heap.size) wr).setCell (p := ⟨w.heap.size, 2, none⟩) (fun _ => rfl) (.slice (some ⟨r2, 0, none⟩) n c2)
      have hO5 := obj_set hO 2 (.slice (some ⟨r2, 0, none⟩) n c2)
      have hP5 := F5.obj hP (by omega)
      have hr5 := EK.row_fr hrow F5 (EK.row_ne_of hrow hO (by decide))
      have hm5 := EK.row_fr hmr F5 (EK.row_ne_of hmr hO (by decide))
      have hb5 := hbw.trans (F5.below _ hbw.size (fun i hi e => by omega))
      simp only [List.setIfInBounds_toArray, List.set_cons_succ, List.set_cons_zero] at hO5
      have HST := hide (store_whole (P := Try.prog) (ty := 29) hP5 (cells := #[.int .i64 me, .int .i64 nx, .slice (some ⟨r2, 0, none⟩) n c2]) info29 rfl (by simp [Value.oneCell']))
      have F6 := setRow_fr' (wr.setCell ⟨w.heap.size, 2, none⟩ (.slice (some ⟨r2, 0, none⟩) n c2)) (w.heap.size + 1) #[.int .i64 me, .int .i64 nx, .slice (some ⟨r2, 0, none⟩) n c2]
      have HFIN := hide (show RC ((wr.setCell ⟨w.heap.size, 2, none⟩ (.slice (some ⟨r2, 0, none⟩) n c2)).setRow (w.heap.size + 1) #[.int .i64 me, .int .i64 nx, .slice (some ⟨r2, 0, none⟩) n c2]) B ⟨me, nx, (cRun me now (X.map (·.id)) L).1⟩ (.agg #[.int .i64 me, .int .i64 nx, .slice (some ⟨r2, 0, none⟩) n c2]) ∧ kM.row ((wr.setCell ⟨w.heap.size, 2, none⟩ (.slice (some ⟨r2, 0, none⟩) n c2)).setRow (w.heap.size + 1) #[.int .i64 me, .int .i64 nx, .slice (some ⟨r2, 0, none⟩) n c2]) w.heap.size (u7) (cRun me now (X.map (·.id)) L).2 ∧ Below w.heap.size w ((wr.setCell ⟨w.heap.size, 2, none⟩ (.slice (some ⟨r2, 0, none⟩) n c2)).setRow (w.heap.size + 1) #[.int .i64 me, .int .i64 nx, .slice (some ⟨r2, 0, none⟩) n c2]) from
        ⟨⟨_, rfl, by rw [HEND.out]; exact EK.row_base (EK.row_fr hr5 F6 (EK.row_ne_of hr5 hP5 (by decide))) HBS.out⟩, by rw [HEND.out]; exact EK.row_fr hm5 F6 (EK.row_ne_of hm5 hP5 (by decide)), hb5.trans (F6.below _ hb5.size (fun i hi e => by omega))⟩)
      have HOO := hide (setRow_at' (C' := #[.int .i64 me, .int .i64 nx, .slice (some ⟨r2, 0, none⟩) n c2]) hP5)
      have z0 := obj_cell hO 0
      have z1 := obj_cell hO 1
      have z2 := obj_cell hO 2
      have tz := obj_frozen hO 2
      have k0 := obj_cell hO5 0
      have k1 := obj_cell hO5 1
      have k2 := obj_cell hO5 2
      simp only [List.getElem?_toArray, List.getElem?_cons_zero, List.getElem?_cons_succ] at z0 z1 z2 k0 k1 k2
      clear F5 hO5 hP5 hr5 hm5 hb5 F6 hrow hO hP hbw hmr hml hx1 hcd hfi hxs hxa hnil hgk
      go_wp2_with (refine wpList_storev' (w' := (wr.setCell ⟨w.heap.size, 2, none⟩ (.slice (some ⟨r2, 0, none⟩) n c2)).setRow (w.heap.size + 1) #[.int .i64 me, .int .i64 nx, .slice (some ⟨r2, 0, none⟩) n c2]) rfl 29 (.tmp 4) (.tmp 86) rfl rfl rfl ?_ ?_; exact HST.out)
      refine bodyPost_ret (res_ct rfl _ _ (w.heap.size + 1) 29 _ (0, 0) _ rfl HOO.out Try.underlying29 rfl info29) rfl ?_
      have HX := HFIN.out
      refine ⟨.agg #[.int .i64 me, .int .i64 nx, .slice (some ⟨r2, 0, none⟩) n c2], u7, ?_, HX⟩
      rfl

    · simp only at hj hid hst
      obtain ⟨hs1, hs2, x', hcd', hx'⟩ := dStep (S := ⟨me, nx, L⟩) HNB.out hdt hcd hx1 hj hid
      obtain ⟨k, hke⟩ : ∃ k, k = (dL ⟨me, nx, L⟩ X now i)[j] := ⟨_, rfl⟩
      rw [← hke] at hs1 hs2 hid hst
      obtain ⟨r', cap', e1, hz1, hz2, hrb, hrs, hcell⟩ := EK.row_cells hrow hj
      have hlen : n = (dL ⟨me, nx, L⟩ X now i).length := by injection e1
      rw [← hlen] at e1 hz1
      injection e1 with e1a e1b e1c
      injection e1a with e1a
      injection e1a with e1a e1d e1e
      subst e1a e1c
      simp only [maxLen] at hz2
      rw [← hke] at hcell
      have q0 := hcell 0 (by decide)
      have q1 := hcell 1 (by decide)
      have q2 := hcell 2 (by decide)
      have q3 := hcell 3 (by decide)
      have q4 := hcell 4 (by decide)
      have q5 := hcell 5 (by decide)
      simp only [kK, List.getElem?_cons_zero, List.getElem?_cons_succ, Nat.add_zero] at q0 q1 q2 q3 q4 q5
      have hjn : (j : Int) < (n : Int) := by rw [hlen]; omega
      have hj0 : ¬ (j : Int) < 0 := by omega
      have hj1 : (0 : Int) ≤ (j : Int) := by omega
      have hne0 : ¬ w.heap.size = r2 := fun e => EK.row_ne hrow hO (by decide) (by rw [e]; rfl)
      have hne1 : ¬ w.heap.size + 1 = r2 := fun e => EK.row_ne hrow hP (by decide) (by rw [e]; rfl)
      have hmr2 : u7.ownBlock ≠ some r2 := fun e => by
        obtain ⟨-, -, cs, h7⟩ := EK.row_typed hmr e
        exact EK.row_ne hrow h7 (by decide) rfl
      have hgk' : X.length - (i + 1) + (i + 1) = X.length := by
        have : i < X.length := by
          rcases Nat.lt_or_ge i X.length with h | h
          · exact h
          · rw [List.drop_eq_nil_of_le h] at hdt
            cases hdt
        omega
      have HMEAS := hide (show X.length - (i + 1) < gk from by omega)
      have HGK := hide hgk'
      have HXI := hide hx'
      have HCD := hide hcd'
      have hLl : (dL ⟨me, nx, L⟩ X now (i + 1)).length ≤ 65536 := by
        rw [hs1, List.length_set, ← hlen]
        exact HN.out.2
      -- behind the round
      have HAFT := hide (fun (w6 : World) (o6 : Value) (hr6 : kK.row w6 w.heap.size (.slice (some ⟨r2, 0, none⟩) n c2) (dL ⟨me, nx, L⟩ X now (i + 1))) (hm6 : kM.row w6 w.heap.size o6 (dM ⟨me, nx, L⟩ X now (i + 1))) (hO6 : w6.heap[w.heap.size]? = some (.cells #[.int .i64 me, .int .i64 nx, .slice A n c] 29 (0, 0))) (hP6 : w6.heap[w.heap.size + 1]? = some (.cells #[.int .i64 0, .int .i64 0, .slice none 0 0] 29 (0, 0))) (hb6 : Below w.heap.size w w6) =>
        (rfirst_any hr6 hLl now).mono (R' := fun e w7 => ∃ r7, e = .returned (.int .i64 r7) ∧ DrS w ⟨me, nx, L⟩ X now #[.int .i64 me, .int .i64 nx, .slice A n c] n r2 c2 (X.length - (i + 1)) w7 o6 (.int .i64 r7)) (fun e w7 hh => by
          obtain ⟨r7, rfl, hf7, hb7⟩ := hh
          refine ⟨r7, rfl, i + 1, x', r7, hgk', rfl, hf7, hcd', hx', EK.row_below hr6 hb7, EK.row_below hm6 hb7, ?_, obj_below hO6 hb7, obj_below hP6 hb7, hb6.trans (hb7.mono hb6.size)⟩
          rw [hs2, List.length_append]
          have : (dueM me k).length ≤ 1 := by unfold dueM; split <;> simp
          simp only
          omega))
      obtain ⟨kid, kdst, kst, ksent, kdue, kbody, krep⟩ := k
      simp only at hid hst q0 q1 q2 q3 q4 q5
      subst hst
      by_cases h8 : 8 ≤ ksent
      · have h8i : (8 : Int) ≤ (ksent : Int) := by omega
        have F := (Fr.refl (fun i => i = r2) wr).setCell (p := ⟨r2, j * 7 + 2, none⟩) (fun _ => rfl) (.int .i64 3)
        have s3 := EK.row_set (K := kK) hrow hj (j := 2) (by decide) (dueG now ⟨kid, kdst, 1, ksent, kdue, kbody, krep⟩) (.int .i64 3) (by rw [← hke]; unfold dueG; rw [if_pos h8]; rfl)
        rw [← hs1] at s3
        have e9 : dueM me ⟨kid, kdst, 1, ksent, kdue, kbody, krep⟩ = [] := by unfold dueM; rw [if_pos h8]
        rw [e9, List.append_nil] at hs2
        have HA := hide (HAFT.out (wr.setCell ⟨r2, j * 7 + 2, none⟩ (.int .i64 3)) u7 s3 (by rw [hs2]; exact EK.row_fr hmr F (fun i hi e => hmr2 (e ▸ hi))) (F.obj hO hne0) (F.obj hP hne1) (hbw.trans (F.below _ hbw.size (fun i hi e => by omega))))
        have t2 := EK.row_frozen hrow (j * 7 + 2)
        clear hfi hcd hx1 hrow hmr hml hO hP hbw hxs hxa hdt hj hs1 hs2 hcd' hx' hke hcell hne0 hne1 hmr2 hgk' hLl F s3 e9 h8 hlen hid HAFT e1b hrb hrs q0 q1 q4 q5
        go_wp2_with fail
        refine HA.out.mono ?_
        rintro e w7 ⟨r7, rfl, hd7⟩
        have HD := hide hd7
        clear hd7
        go_wp2_with fail
        go_roundg (X.length - (i + 1))
        case measure => exact HMEAS.out
        case rel => exact HD.out
      · have h8i : ¬ (8 : Int) ≤ (ksent : Int) := by omega
        have t3 := EK.row_frozen hrow (j * 7 + 3)
        have t4 := EK.row_frozen hrow (j * 7 + 4)
        have HROW := hide hrow
        have HMR := hide hmr
        have HM2 := hide hmr2
        have HO := hide hO
        have HP := hide hP
        have HNE := hide (And.intro hne0 hne1)
        have HBW := hide hbw
        have HKE := hide (show ∃ hj : j < (dL ⟨me, nx, L⟩ X now i).length, (dL ⟨me, nx, L⟩ X now i)[j] = ⟨kid, kdst, 1, ksent, kdue, kbody, krep⟩ from ⟨hj, hke.symm⟩)
        have HS1 := hide hs1
        have HS2 := hide hs2
        have HML := hide (show (dM ⟨me, nx, L⟩ X now i).length ≤ 65536 from by have := HXL.out; omega)
        have HH8 := hide h8
        have hks : (ksent : Int) ≤ 8 := by omega
        have HW0 := hide (show WtS wr wr ksent (.int .i64 4) (.int .i64 0) from ⟨0, rfl, rfl, Nat.zero_le _, rfl⟩)
        obtain ⟨M1, hM1⟩ : ∃ M, M = dM ⟨me, nx, L⟩ X now i := ⟨_, rfl⟩
        have HM1 := hide hM1
        rw [← hM1] at HMR HML
        have hnow : 0 ≤ now ∧ now ≤ 1099511626776 := by have := HNB.out; unfold badN at this; omega
        obtain ⟨hnow1, hnow2⟩ := hnow
        clear hfi hcd hx1 hrow hmr hml hO hP hbw hxs hxa hdt hj hs1 hs2 hcd' hx' hke hcell hne0 hne1 hmr2 hgk' hLl h8 hlen hid e1b hrb hrs hM1
        go_wp2_with fail
        go_loopw [9, 10] (fun wv kv wx => WtS wr wx ksent wv kv) (fun _ kv _ => ksent - (intOf kv).toNat)
        case atStart => exact HW0.out
        case round =>
          obtain ⟨q, rfl, rfl, hq, rfl⟩ := hrel
          have hwt := wt_rng q
          rcases Nat.lt_or_ge q ksent with hqs | hqs
          · have hqi : (q : Int) < (ksent : Int) := by omega
            obtain ⟨wv, hwv⟩ : ∃ z, z = wt q := ⟨_, rfl⟩
            obtain ⟨w2v, hw2v⟩ : ∃ z, z = wt (q + 1) := ⟨_, rfl⟩
            have hmn := fun ts ty => run_mn ts ty (2 * wv) 64 w2v (by rw [hw2v, hwv]; rfl)
            have hw3 : IntKind.i64.wrap (2 * wv) = 2 * wv := by rw [IntKind.wrap_i64]; omega
            have HRES := hide (show WtS wr wr ksent (.int .i64 w2v) (.int .i64 ((q : Int) + 1)) from ⟨q + 1, rfl, by rw [hw2v], hqs, rfl⟩)
            rw [← hwv]
            clear hwt hwv hw2v
            go_wp2_with fail
            exact ⟨HRES.out, by simp only [intOf]; omega⟩
          · obtain rfl : q = ksent := by omega
            have hqi : ¬ (q : Int) < (q : Int) := by omega
            obtain ⟨wv, hwv⟩ : ∃ z, z = wt q := ⟨_, rfl⟩
            have hw3 : IntKind.i64.wrap (now + wv) = now + wv := by rw [IntKind.wrap_i64]; omega
            have F3 := (Fr.refl (fun i => i = r2) wr).setCell (p := ⟨r2, j * 7 + 3, none⟩) (fun _ => rfl) (.int .i64 ((q : Int) + 1))
            have F4 := F3.setCell (p := ⟨r2, j * 7 + 4, none⟩) (fun _ => rfl) (.int .i64 (now + wv))
            have s3 := EK.row_set (K := kK) HROW.out HKE.out.1 (j := 3) (by decide) ⟨kid, kdst, 1, q + 1, kdue, kbody, krep⟩ (.int .i64 ((q : Int) + 1)) (by rw [HKE.out.2]; simp [kK])
            have tf4 := EK.row_frozen s3 (j * 7 + 4)
            obtain ⟨r3, c3, e3, -, -, -, -, hcell3⟩ := EK.row_cells s3 (k := j) (by rw [List.length_set]; exact HKE.out.1)
            have he3 : r2 = r3 := by
              injection e3 with e3
              injection e3 with e3
              injection e3
            clear e3
            subst he3
            have p4 := hcell3 4 (by decide)
            rw [List.getElem_set_self] at p4
            simp only [kK, List.getElem?_cons_zero, List.getElem?_cons_succ] at p4 tf4
            have s4 := EK.row_set (K := kK) s3 (k := j) (by rw [List.length_set]; exact HKE.out.1) (j := 4) (by decide) (dueG now ⟨kid, kdst, 1, q, kdue, kbody, krep⟩) (.int .i64 (now + wv)) (by rw [List.getElem_set_self]; unfold dueG; rw [if_neg HH8.out, hwv]; simp [kK])
            rw [List.set_set, ← HS1.out] at s4
            simp only [kK] at F3 F4 s3 s4
            have hO4 := F4.obj HO.out HNE.out.1
            have hP4 := F4.obj HP.out HNE.out.2
            have hb4 := HBW.out.trans (F4.below _ HBW.out.size (fun i hi e => by have := (EK.row_typed HROW.out (show (Value.slice (some ⟨r2, 0, none⟩) n c2).ownBlock = some r2 from rfl)).1; omega))
            have hm4 := EK.row_fr HMR.out F4 (fun i hi e => HM2.out (e ▸ hi))
            obtain ⟨r5, c5, e5, -, -, -, hr5, hcell5⟩ := EK.row_cells s4 (k := j) (by rw [HS1.out, List.length_set]; exact HKE.out.1)
            have he5 : r2 = r5 := by
              injection e5 with e5
              injection e5 with e5
              injection e5
            clear e5
            subst he5
            have hel : (dL ⟨me, nx, L⟩ X now (i + 1))[j]'(by rw [HS1.out, List.length_set]; exact HKE.out.1) = ⟨kid, kdst, 1, q + 1, now + wv, kbody, krep⟩ := by
              simp only [HS1.out, List.getElem_set_self]
              unfold dueG
              rw [if_neg HH8.out, hwv]
            rw [hel] at hcell5
            have p0 := hcell5 0 (by decide)
            have p1 := hcell5 1 (by decide)
            have p5 := hcell5 5 (by decide)
            simp only [List.getElem?_cons_zero, List.getElem?_cons_succ, Nat.add_zero] at p0 p1 p5
            generalize hwq : (wr.setCell ⟨r2, j * 7 + 3, none⟩ (.int .i64 ((q : Int) + 1))).setCell ⟨r2, j * 7 + 4, none⟩ (.int .i64 (now + wv)) = wq at F4 s4 hO4 hP4 hb4 hm4 hr5 p0 p1 p5
            have HWQ := hide hwq
            have HOQ := hide hO4
            have HPQ := hide hP4
            have HBQ := hide hb4
            have HMQ := hide hm4
            have HSQ := hide s4
            have HSZ := hide (show w.heap.size ≤ wq.heap.size from hb4.size)
            have HCL := hide (show r2 < wq.heap.size ∧ wq.cell? ⟨r2, j * 7 + 1, none⟩ = some (.int .i64 kdst) ∧ wq.cell? ⟨r2, j * 7, none⟩ = some (.int .i64 kid) ∧ wq.cell? ⟨r2, j * 7 + 5, none⟩ = some (.string kbody) from ⟨hr5, p1, p0, p5⟩)
            have HDM := hide (show dueM me ⟨kid, kdst, 1, q, kdue, kbody, krep⟩ = [⟨1, me, kdst, kid, kbody⟩] from by unfold dueM; rw [if_neg HH8.out])
            obtain ⟨u7c, hu7⟩ : ∃ z, z = u7 := ⟨_, rfl⟩
            have HU7 := hide hu7
            rw [← hwv]
            clear hwt hwv F3 F4 s3 s4 hO4 hP4 hb4 hm4 hr5 p0 p1 p5 hcell3 hcell5 hel hu7 hqs
            go_wp2_with fail
            try rw [hwq]
            clear q0 q1 q2 q3 q4 q5 t3 t4 tf4 p4 hwq
            refine wp_region_e (rdeA w.heap.size n r2 c2 j c now me nx r0 A) (fun j => #[63, 64, 65, 66, 67, 68, 69, 70, 71, 72, 73, 74, 75, 76, 77, 78, 79, 80, 81, 82, 83, 7].getD j 0) (fun d x w' => (ApS kM wq w.heap.size u7 M1 ⟨1, me, kdst, kid, kbody⟩ (d 19) (d 20) (x 19) (x 20) w' ∧ (d 21 = false → x 21 = u7) ∧ (d 21 = true → x 21 = x 20))) (fun qi qv => rdeV w.heap.size n r2 c2 j me kid kdst kbody u7 qi qv) (by kernel_rfl) (by kernel_rfl) rfl ⟨ApS.start _ _ (Below.refl _ _).drew, (fun _ => rfl), (fun e => by cases e)⟩ ?_ ?_ ?_
            · exact fun u => ⟨fun x v => rfl, fun x v => rfl, fun x v => rfl, fun x v => rfl, fun x v => rfl, fun x v => rfl, fun x v => rfl, fun x v => rfl, fun x v => rfl, fun x v => rfl, fun x v => rfl, fun x v => rfl, fun x v => rfl, fun x v => rfl, fun x v => rfl, fun x v => rfl, fun x v => rfl, fun x v => rfl, fun x v => rfl, fun x v => rfl, fun x v => rfl, fun x v => rfl, trivial⟩
            · refine fun u => ⟨?_, ?_, ?_, ?_, ?_, ?_, ?_, ?_, ?_, ?_, ?_, ?_, ?_, ?_, ?_, ?_, ?_, ?_, ?_, ?_, ?_, ?_, trivial⟩
              · intro d x w' hS hdi hv hp hcl K hK
                have hS1 : (ApS kM wq w.heap.size u7 M1 ⟨1, me, kdst, kid, kbody⟩ (d 19) (d 20) (x 19) (x 20) w' ∧ (d 21 = false → x 21 = u7) ∧ (d 21 = true → x 21 = x 20)) := hS
                have n21 : ¬ d 21 = true := fun e => by have := hcl 21 0 e (by kernel_rfl); rw [hdi] at this; cases this
                have e21 := hS1.2.1 (by simpa using n21)
                refine want_yes (rfl) ?_
                unfold rdeA at hK ⊢
                simp only [e21] at hK ⊢
                go_wp2
                exact hK u7 w' ⟨hS1.1, (fun _ => rfl), (fun e => absurd e n21)⟩ rfl
              · intro d x w' hS hdi hv hp hcl K hK
                have hS1 : (ApS kM wq w.heap.size u7 M1 ⟨1, me, kdst, kid, kbody⟩ (d 19) (d 20) (x 19) (x 20) w' ∧ (d 21 = false → x 21 = u7) ∧ (d 21 = true → x 21 = x 20)) := hS
                refine want_yes (rfl) ?_
                unfold rdeA at hK ⊢
                go_wp2
                exact hK (.pointer (some ⟨w.heap.size, 0, none⟩)) w' (show (ApS kM wq w.heap.size u7 M1 ⟨1, me, kdst, kid, kbody⟩ (d 19) (d 20) (x 19) (x 20) w' ∧ (d 21 = false → x 21 = u7) ∧ (d 21 = true → x 21 = x 20)) from hS1) rfl
              · intro d x w' hS hdi hv hp hcl K hK
                have d0 : x 1 = .pointer (some ⟨w.heap.size, 0, none⟩) := hv 1 (hp 1 (by kernel_rfl))
                have hS1 : (ApS kM wq w.heap.size u7 M1 ⟨1, me, kdst, kid, kbody⟩ (d 19) (d 20) (x 19) (x 20) w' ∧ (d 21 = false → x 21 = u7) ∧ (d 21 = true → x 21 = x 20)) := hS
                have n20 : ¬ d 20 = true := fun e => by have := hcl 20 2 e (by kernel_rfl); rw [hdi] at this; cases this
                have z0 := obj_cell (obj_below HOQ.out (hS1.1.b (by simpa using n20))) 0
                simp only [List.getElem?_toArray, List.getElem?_cons_zero] at z0
                refine want_yes (rfl) ?_
                unfold rdeA at hK ⊢
                simp only [d0] at hK ⊢
                go_wp2
                exact hK (.int .i64 me) w' (show (ApS kM wq w.heap.size u7 M1 ⟨1, me, kdst, kid, kbody⟩ (d 19) (d 20) (x 19) (x 20) w' ∧ (d 21 = false → x 21 = u7) ∧ (d 21 = true → x 21 = x 20)) from hS1) rfl
              · intro d x w' hS hdi hv hp hcl K hK
                have hS1 : (ApS kM wq w.heap.size u7 M1 ⟨1, me, kdst, kid, kbody⟩ (d 19) (d 20) (x 19) (x 20) w' ∧ (d 21 = false → x 21 = u7) ∧ (d 21 = true → x 21 = x 20)) := hS
                refine want_yes (rfl) ?_
                unfold rdeA at hK ⊢
                go_wp2
                exact hK (.slice (some ⟨r2, 0, none⟩) n c2) w' (show (ApS kM wq w.heap.size u7 M1 ⟨1, me, kdst, kid, kbody⟩ (d 19) (d 20) (x 19) (x 20) w' ∧ (d 21 = false → x 21 = u7) ∧ (d 21 = true → x 21 = x 20)) from hS1) rfl
              · intro d x w' hS hdi hv hp hcl K hK
                have hS1 : (ApS kM wq w.heap.size u7 M1 ⟨1, me, kdst, kid, kbody⟩ (d 19) (d 20) (x 19) (x 20) w' ∧ (d 21 = false → x 21 = u7) ∧ (d 21 = true → x 21 = x 20)) := hS
                refine want_yes (rfl) ?_
                unfold rdeA at hK ⊢
                go_wp2
                exact hK (.int .i64 (j : Int)) w' (show (ApS kM wq w.heap.size u7 M1 ⟨1, me, kdst, kid, kbody⟩ (d 19) (d 20) (x 19) (x 20) w' ∧ (d 21 = false → x 21 = u7) ∧ (d 21 = true → x 21 = x 20)) from hS1) rfl
              · intro d x w' hS hdi hv hp hcl K hK
                have d0 : x 3 = .slice (some ⟨r2, 0, none⟩) n c2 := hv 3 (hp 3 (by kernel_rfl))
                have d1 : x 4 = .int .i64 (j : Int) := hv 4 (hp 4 (by kernel_rfl))
                have hS1 : (ApS kM wq w.heap.size u7 M1 ⟨1, me, kdst, kid, kbody⟩ (d 19) (d 20) (x 19) (x 20) w' ∧ (d 21 = false → x 21 = u7) ∧ (d 21 = true → x 21 = x 20)) := hS
                refine want_yes (rfl) ?_
                unfold rdeA at hK ⊢
                simp only [d0, d1] at hK ⊢
                go_wp2
                exact hK (.pointer (some ⟨r2, j * 7, none⟩)) w' (show (ApS kM wq w.heap.size u7 M1 ⟨1, me, kdst, kid, kbody⟩ (d 19) (d 20) (x 19) (x 20) w' ∧ (d 21 = false → x 21 = u7) ∧ (d 21 = true → x 21 = x 20)) from hS1) rfl
              · intro d x w' hS hdi hv hp hcl K hK
                have d0 : x 5 = .pointer (some ⟨r2, j * 7, none⟩) := hv 5 (hp 5 (by kernel_rfl))
                have hS1 : (ApS kM wq w.heap.size u7 M1 ⟨1, me, kdst, kid, kbody⟩ (d 19) (d 20) (x 19) (x 20) w' ∧ (d 21 = false → x 21 = u7) ∧ (d 21 = true → x 21 = x 20)) := hS
                refine want_yes (rfl) ?_
                unfold rdeA at hK ⊢
                simp only [d0] at hK ⊢
                go_wp2
                exact hK (.pointer (some ⟨r2, j * 7 + 1, none⟩)) w' (show (ApS kM wq w.heap.size u7 M1 ⟨1, me, kdst, kid, kbody⟩ (d 19) (d 20) (x 19) (x 20) w' ∧ (d 21 = false → x 21 = u7) ∧ (d 21 = true → x 21 = x 20)) from hS1) rfl
              · intro d x w' hS hdi hv hp hcl K hK
                have d0 : x 6 = .pointer (some ⟨r2, j * 7 + 1, none⟩) := hv 6 (hp 6 (by kernel_rfl))
                have hS1 : (ApS kM wq w.heap.size u7 M1 ⟨1, me, kdst, kid, kbody⟩ (d 19) (d 20) (x 19) (x 20) w' ∧ (d 21 = false → x 21 = u7) ∧ (d 21 = true → x 21 = x 20)) := hS
                have n20 : ¬ d 20 = true := fun e => by have := hcl 20 7 e (by kernel_rfl); rw [hdi] at this; cases this
                have z0 := ((hS1.1.b (by simpa using n20)).cell (p := ⟨r2, j * 7 + 1, none⟩) HCL.out.1).trans HCL.out.2.1
                refine want_yes (rfl) ?_
                unfold rdeA at hK ⊢
                simp only [d0] at hK ⊢
                go_wp2
                exact hK (.int .i64 kdst) w' (show (ApS kM wq w.heap.size u7 M1 ⟨1, me, kdst, kid, kbody⟩ (d 19) (d 20) (x 19) (x 20) w' ∧ (d 21 = false → x 21 = u7) ∧ (d 21 = true → x 21 = x 20)) from hS1) rfl
              · intro d x w' hS hdi hv hp hcl K hK
                have hS1 : (ApS kM wq w.heap.size u7 M1 ⟨1, me, kdst, kid, kbody⟩ (d 19) (d 20) (x 19) (x 20) w' ∧ (d 21 = false → x 21 = u7) ∧ (d 21 = true → x 21 = x 20)) := hS
                refine want_yes (rfl) ?_
                unfold rdeA at hK ⊢
                go_wp2
                exact hK (.slice (some ⟨r2, 0, none⟩) n c2) w' (show (ApS kM wq w.heap.size u7 M1 ⟨1, me, kdst, kid, kbody⟩ (d 19) (d 20) (x 19) (x 20) w' ∧ (d 21 = false → x 21 = u7) ∧ (d 21 = true → x 21 = x 20)) from hS1) rfl
              · intro d x w' hS hdi hv hp hcl K hK
                have hS1 : (ApS kM wq w.heap.size u7 M1 ⟨1, me, kdst, kid, kbody⟩ (d 19) (d 20) (x 19) (x 20) w' ∧ (d 21 = false → x 21 = u7) ∧ (d 21 = true → x 21 = x 20)) := hS
                refine want_yes (rfl) ?_
                unfold rdeA at hK ⊢
                go_wp2
                exact hK (.int .i64 (j : Int)) w' (show (ApS kM wq w.heap.size u7 M1 ⟨1, me, kdst, kid, kbody⟩ (d 19) (d 20) (x 19) (x 20) w' ∧ (d 21 = false → x 21 = u7) ∧ (d 21 = true → x 21 = x 20)) from hS1) rfl
              · intro d x w' hS hdi hv hp hcl K hK
                have d0 : x 8 = .slice (some ⟨r2, 0, none⟩) n c2 := hv 8 (hp 8 (by kernel_rfl))
                have d1 : x 9 = .int .i64 (j : Int) := hv 9 (hp 9 (by kernel_rfl))
                have hS1 : (ApS kM wq w.heap.size u7 M1 ⟨1, me, kdst, kid, kbody⟩ (d 19) (d 20) (x 19) (x 20) w' ∧ (d 21 = false → x 21 = u7) ∧ (d 21 = true → x 21 = x 20)) := hS
                refine want_yes (rfl) ?_
                unfold rdeA at hK ⊢
                simp only [d0, d1] at hK ⊢
                go_wp2
                exact hK (.pointer (some ⟨r2, j * 7, none⟩)) w' (show (ApS kM wq w.heap.size u7 M1 ⟨1, me, kdst, kid, kbody⟩ (d 19) (d 20) (x 19) (x 20) w' ∧ (d 21 = false → x 21 = u7) ∧ (d 21 = true → x 21 = x 20)) from hS1) rfl
              · intro d x w' hS hdi hv hp hcl K hK
                have d0 : x 10 = .pointer (some ⟨r2, j * 7, none⟩) := hv 10 (hp 10 (by kernel_rfl))
                have hS1 : (ApS kM wq w.heap.size u7 M1 ⟨1, me, kdst, kid, kbody⟩ (d 19) (d 20) (x 19) (x 20) w' ∧ (d 21 = false → x 21 = u7) ∧ (d 21 = true → x 21 = x 20)) := hS
                refine want_yes (rfl) ?_
                unfold rdeA at hK ⊢
                simp only [d0] at hK ⊢
                go_wp2
                exact hK (.pointer (some ⟨r2, j * 7, none⟩)) w' (show (ApS kM wq w.heap.size u7 M1 ⟨1, me, kdst, kid, kbody⟩ (d 19) (d 20) (x 19) (x 20) w' ∧ (d 21 = false → x 21 = u7) ∧ (d 21 = true → x 21 = x 20)) from hS1) rfl
              · intro d x w' hS hdi hv hp hcl K hK
                have d0 : x 11 = .pointer (some ⟨r2, j * 7, none⟩) := hv 11 (hp 11 (by kernel_rfl))
                have hS1 : (ApS kM wq w.heap.size u7 M1 ⟨1, me, kdst, kid, kbody⟩ (d 19) (d 20) (x 19) (x 20) w' ∧ (d 21 = false → x 21 = u7) ∧ (d 21 = true → x 21 = x 20)) := hS
                have n20 : ¬ d 20 = true := fun e => by have := hcl 20 12 e (by kernel_rfl); rw [hdi] at this; cases this
                have z0 := ((hS1.1.b (by simpa using n20)).cell (p := ⟨r2, j * 7, none⟩) HCL.out.1).trans HCL.out.2.2.1
                refine want_yes (rfl) ?_
                unfold rdeA at hK ⊢
                simp only [d0] at hK ⊢
                go_wp2
                exact hK (.int .i64 kid) w' (show (ApS kM wq w.heap.size u7 M1 ⟨1, me, kdst, kid, kbody⟩ (d 19) (d 20) (x 19) (x 20) w' ∧ (d 21 = false → x 21 = u7) ∧ (d 21 = true → x 21 = x 20)) from hS1) rfl
              · intro d x w' hS hdi hv hp hcl K hK
                have hS1 : (ApS kM wq w.heap.size u7 M1 ⟨1, me, kdst, kid, kbody⟩ (d 19) (d 20) (x 19) (x 20) w' ∧ (d 21 = false → x 21 = u7) ∧ (d 21 = true → x 21 = x 20)) := hS
                refine want_yes (rfl) ?_
                unfold rdeA at hK ⊢
                go_wp2
                exact hK (.slice (some ⟨r2, 0, none⟩) n c2) w' (show (ApS kM wq w.heap.size u7 M1 ⟨1, me, kdst, kid, kbody⟩ (d 19) (d 20) (x 19) (x 20) w' ∧ (d 21 = false → x 21 = u7) ∧ (d 21 = true → x 21 = x 20)) from hS1) rfl
              · intro d x w' hS hdi hv hp hcl K hK
                have hS1 : (ApS kM wq w.heap.size u7 M1 ⟨1, me, kdst, kid, kbody⟩ (d 19) (d 20) (x 19) (x 20) w' ∧ (d 21 = false → x 21 = u7) ∧ (d 21 = true → x 21 = x 20)) := hS
                refine want_yes (rfl) ?_
                unfold rdeA at hK ⊢
                go_wp2
                exact hK (.int .i64 (j : Int)) w' (show (ApS kM wq w.heap.size u7 M1 ⟨1, me, kdst, kid, kbody⟩ (d 19) (d 20) (x 19) (x 20) w' ∧ (d 21 = false → x 21 = u7) ∧ (d 21 = true → x 21 = x 20)) from hS1) rfl
              · intro d x w' hS hdi hv hp hcl K hK
                have d0 : x 13 = .slice (some ⟨r2, 0, none⟩) n c2 := hv 13 (hp 13 (by kernel_rfl))
                have d1 : x 14 = .int .i64 (j : Int) := hv 14 (hp 14 (by kernel_rfl))
                have hS1 : (ApS kM wq w.heap.size u7 M1 ⟨1, me, kdst, kid, kbody⟩ (d 19) (d 20) (x 19) (x 20) w' ∧ (d 21 = false → x 21 = u7) ∧ (d 21 = true → x 21 = x 20)) := hS
                refine want_yes (rfl) ?_
                unfold rdeA at hK ⊢
                simp only [d0, d1] at hK ⊢
                go_wp2
                exact hK (.pointer (some ⟨r2, j * 7, none⟩)) w' (show (ApS kM wq w.heap.size u7 M1 ⟨1, me, kdst, kid, kbody⟩ (d 19) (d 20) (x 19) (x 20) w' ∧ (d 21 = false → x 21 = u7) ∧ (d 21 = true → x 21 = x 20)) from hS1) rfl
              · intro d x w' hS hdi hv hp hcl K hK
                have d0 : x 15 = .pointer (some ⟨r2, j * 7, none⟩) := hv 15 (hp 15 (by kernel_rfl))
                have hS1 : (ApS kM wq w.heap.size u7 M1 ⟨1, me, kdst, kid, kbody⟩ (d 19) (d 20) (x 19) (x 20) w' ∧ (d 21 = false → x 21 = u7) ∧ (d 21 = true → x 21 = x 20)) := hS
                refine want_yes (rfl) ?_
                unfold rdeA at hK ⊢
                simp only [d0] at hK ⊢
                go_wp2
                exact hK (.pointer (some ⟨r2, j * 7 + 5, none⟩)) w' (show (ApS kM wq w.heap.size u7 M1 ⟨1, me, kdst, kid, kbody⟩ (d 19) (d 20) (x 19) (x 20) w' ∧ (d 21 = false → x 21 = u7) ∧ (d 21 = true → x 21 = x 20)) from hS1) rfl
              · intro d x w' hS hdi hv hp hcl K hK
                have d0 : x 16 = .pointer (some ⟨r2, j * 7 + 5, none⟩) := hv 16 (hp 16 (by kernel_rfl))
                have hS1 : (ApS kM wq w.heap.size u7 M1 ⟨1, me, kdst, kid, kbody⟩ (d 19) (d 20) (x 19) (x 20) w' ∧ (d 21 = false → x 21 = u7) ∧ (d 21 = true → x 21 = x 20)) := hS
                have n20 : ¬ d 20 = true := fun e => by have := hcl 20 17 e (by kernel_rfl); rw [hdi] at this; cases this
                have z0 := ((hS1.1.b (by simpa using n20)).cell (p := ⟨r2, j * 7 + 5, none⟩) HCL.out.1).trans HCL.out.2.2.2
                refine want_yes (rfl) ?_
                unfold rdeA at hK ⊢
                simp only [d0] at hK ⊢
                go_wp2
                exact hK (.string kbody) w' (show (ApS kM wq w.heap.size u7 M1 ⟨1, me, kdst, kid, kbody⟩ (d 19) (d 20) (x 19) (x 20) w' ∧ (d 21 = false → x 21 = u7) ∧ (d 21 = true → x 21 = x 20)) from hS1) rfl
              · intro d x w' hS hdi hv hp hcl K hK
                have d0 : x 2 = .int .i64 me := hv 2 (hp 2 (by kernel_rfl))
                have d1 : x 7 = .int .i64 kdst := hv 7 (hp 7 (by kernel_rfl))
                have d2 : x 12 = .int .i64 kid := hv 12 (hp 12 (by kernel_rfl))
                have d3 : x 17 = .string kbody := hv 17 (hp 17 (by kernel_rfl))
                have hS1 : (ApS kM wq w.heap.size u7 M1 ⟨1, me, kdst, kid, kbody⟩ (d 19) (d 20) (x 19) (x 20) w' ∧ (d 21 = false → x 21 = u7) ∧ (d 21 = true → x 21 = x 20)) := hS
                refine want_yes (rfl) ?_
                unfold rdeA at hK ⊢
                simp only [d0, d1, d2, d3] at hK ⊢
                go_wp2
                exact hK (.agg #[.int .i64 1, .int .i64 me, .int .i64 kdst, .int .i64 kid, .string kbody]) w' (show (ApS kM wq w.heap.size u7 M1 ⟨1, me, kdst, kid, kbody⟩ (d 19) (d 20) (x 19) (x 20) w' ∧ (d 21 = false → x 21 = u7) ∧ (d 21 = true → x 21 = x 20)) from hS1) rfl
              · intro d x w' hS hdi hv hp hcl K hK
                have d0 : x 18 = .agg #[.int .i64 1, .int .i64 me, .int .i64 kdst, .int .i64 kid, .string kbody] := hv 18 (hp 18 (by kernel_rfl))
                have hS1 : (ApS kM wq w.heap.size u7 M1 ⟨1, me, kdst, kid, kbody⟩ (d 19) (d 20) (x 19) (x 20) w' ∧ (d 21 = false → x 21 = u7) ∧ (d 21 = true → x 21 = x 20)) := hS
                have n20 : ¬ d 20 = true := fun e => by have := hcl 20 19 e (by kernel_rfl); rw [hdi] at this; cases this
                refine want_yes (rfl) ?_
                unfold rdeA at hK ⊢
                simp only [d0] at hK ⊢
                go_wp2
                exact hK _ _ (show ApS kM wq w.heap.size u7 M1 ⟨1, me, kdst, kid, kbody⟩ true (d 20) _ (x 20) _ ∧ _ ∧ _ from ⟨hS1.1.bs (by simpa using n20) _ rfl _ rfl, hS1.2⟩) trivial
              · intro d x w' hS hdi hv hp hcl K hK
                have d0 : x 0 = u7 := hv 0 (hp 0 (by kernel_rfl))
                have hS1 : (ApS kM wq w.heap.size u7 M1 ⟨1, me, kdst, kid, kbody⟩ (d 19) (d 20) (x 19) (x 20) w' ∧ (d 21 = false → x 21 = u7) ∧ (d 21 = true → x 21 = x 20)) := hS
                have y19 : d 19 = true := hp 19 (by kernel_rfl)
                have n21 : ¬ d 21 = true := fun e => by have := hcl 21 20 e (by kernel_rfl); rw [hdi] at this; cases this
                obtain ⟨bx, e19, v', w4, hrun, hS2⟩ := hS1.1.ap HMQ.out HML.out HSZ.out (by simpa using hdi) y19 40
                refine want_yes (rfl) ?_
                unfold rdeA at hK ⊢
                simp only [d0] at hK ⊢
                exact wp_append_n (.tmp 63) (.tmp 82) 40 40 rfl rfl e19 hrun (hK _ _ (show ApS kM wq w.heap.size u7 M1 ⟨1, me, kdst, kid, kbody⟩ (d 19) true (x 19) v' w4 ∧ _ ∧ _ from ⟨by rw [e19]; exact hS2, hS1.2.1, fun e => absurd e n21⟩) trivial)
              · intro d x w' hS hdi hv hp hcl K hK
                have hS1 : (ApS kM wq w.heap.size u7 M1 ⟨1, me, kdst, kid, kbody⟩ (d 19) (d 20) (x 19) (x 20) w' ∧ (d 21 = false → x 21 = u7) ∧ (d 21 = true → x 21 = x 20)) := hS
                refine want_yes (rfl) ?_
                unfold rdeA at hK ⊢
                go_wp2
                exact hK _ _ (show ApS kM wq w.heap.size u7 M1 ⟨1, me, kdst, kid, kbody⟩ (d 19) (d 20) (x 19) (x 20) _ ∧ _ ∧ _ from ⟨hS1.1, (fun e => by cases e), fun _ => rfl⟩) trivial
            · intro u' hu d x w5 hS hd hv
              have hS1 : (ApS kM wq w.heap.size u7 M1 ⟨1, me, kdst, kid, kbody⟩ (d 19) (d 20) (x 19) (x 20) w5 ∧ (d 21 = false → x 21 = u7) ∧ (d 21 = true → x 21 = x 20)) := hS
              have hf := hS1.1.f (hd 20 (by decide))
              have h21 := hS1.2.2 (hd 21 (by decide))
              obtain ⟨hr5, hf5, -⟩ := hf
              have hA := HAFT.out w5 (x 20) (EK.row_fr HSQ.out hf5 (fun i hi e => by
                obtain ⟨-, -, cs, h7⟩ := EK.row_typed HMQ.out e
                exact EK.row_ne HSQ.out h7 (by decide) hi)) (by rw [HS2.out, HDM.out, ← HM1.out]; exact hr5) (hf5.obj HOQ.out (EK.row_ne HMQ.out HOQ.out (by decide))) (hf5.obj HPQ.out (EK.row_ne HMQ.out HPQ.out (by decide))) (HBQ.out.trans (hf5.below _ HBQ.out.size (fun i hi e => by have := (EK.row_typed HMQ.out e).1; omega)))
              have HA := hide hA
              have H21 := hide h21
              clear hS hS1 hd hv hu hf5 hr5 hA h21
              unfold rdeA
              go_wp2_with fail
              refine HA.out.mono ?_
              rintro e w7 ⟨r7, rfl, hd7⟩
              have HD := hide hd7
              clear hd7
              go_wp2_with fail
              go_roundg (X.length - (i + 1))
              case measure => exact HMEAS.out
              case rel => rw [H21.out]; exact HD.out
end Go.Proofs.Ythcnoamgkkbkcaa
