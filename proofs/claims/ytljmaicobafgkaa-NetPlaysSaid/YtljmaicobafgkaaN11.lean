/- A join of 1 texts of this claim: NtW3. Conditions: none of their own. -/
import Derived.Test.YtljmaicobafgkaaN10
import Derived.Deep.CutRange
section
/- Chapter 13, net: the walk of NetTrue. -/
namespace Go.Proofs.Ytljmaicobafgkaa
open Go.RowKit

def Snt (N : NetS) (s : List Msg) : Prop := ∀ p ∈ N.way, ∃ m ∈ s, decV p.s = mV m.k m.f m.t m.i m.b 0
theorem Snt.more {N : NetS} {s : List Msg} (h : Snt N s) (m : Msg) : Snt N (s ++ [m]) := fun p hp => by
  obtain ⟨q, hq, he⟩ := h p hp
  exact ⟨q, List.mem_append_left _ hq, he⟩
theorem dv_sent {N : NetS} {s : List Msg} (h : Snt N s) (i : Int) (hy : (dvM N i).2 = true) : (dvM N i).1 ∈ s ∧ 0 < N.way.length := by
  unfold dvM at hy ⊢
  by_cases h0 : 0 < N.way.length
  · rw [dif_pos h0] at hy ⊢
    split at hy
    · cases hy
    · rename_i hc
      rw [if_neg hc]
      obtain ⟨m, hm, he⟩ := h _ (List.getElem_mem (atI_lt i h0))
      have := (decMsg_eq (m := m) he).1
      exact ⟨by rw [this]; exact hm, h0⟩
  · rw [dif_neg h0] at hy
    cases hy
theorem Snt.drop {N : NetS} {s : List Msg} (h : Snt N s) (i : Int) : Snt (dropX N i) s := by
  unfold dropX
  split
  · exact fun p hp => h p (List.mem_of_mem_eraseIdx hp)
  · exact h
theorem drop_len (N : NetS) (i : Int) : (dropX N i).way.length ≤ N.way.length := by
  unfold dropX
  split
  · exact List.length_eraseIdx_le _ _
  · exact Nat.le_refl _
theorem drop_len1 (N : NetS) (i : Int) (h0 : 0 < N.way.length) : (dropX N i).way.length + 1 = N.way.length := by
  unfold dropX
  rw [if_pos h0]
  show (N.way.eraseIdx _).length + 1 = _
  rw [List.length_eraseIdx, if_pos (atI_lt i h0)]
  omega
theorem Snt.doub {N : NetS} {s : List Msg} (h : Snt N s) (i : Int) : Snt (doubX N i) s := by
  unfold doubX
  split
  · intro p hp
    simp only [dblN, List.mem_append, List.mem_singleton] at hp
    rcases hp with hp | rfl
    · exact h p hp
    · exact h _ (List.getElem_mem _)
  · exact h
theorem doub_len (N : NetS) (i : Int) : (doubX N i).way.length = N.way.length + if doubY N = true then 1 else 0 := by
  unfold doubX doubY
  by_cases h : 0 < N.way.length ∧ N.way.length < 1024
  · rw [dif_pos h, decide_eq_true h, if_pos rfl]
    simp [dblN]
  · rw [dif_neg h, decide_eq_false h, if_neg (by decide)]
    rfl
theorem cut_way (N : NetS) (a b : Int) (on : Bool) : (cutX N a b on).way = N.way := by
  unfold cutX
  split <;> rfl
theorem row_typed_n {w : World} {B : Nat} {e : TypeId} {size : Nat} {v : Value} {n : Nat} {xs : List Value} (h : w.ownsRow B e size v n xs) {k : Nat} (hk : v.ownBlock = some k) : B ≤ k ∧ ∃ cs, w.heap[k]? = some (.cells cs e (0, 0)) := by
  rcases h.2 with ⟨rfl, _⟩ | ⟨g, cap, cur, rfl, h2, h3, _⟩
  · cases hk
  · cases hk
    exact ⟨h2, cur, h3⟩
/-- What holds ahead of deed k. -/
def TrM (w0 : World) (g k : Nat) (N : NetS) (s : List Msg) (dd ar : Nat) (v6 : Value) (w : World) : Prop :=
  Net w w0.heap.size g N ∧ SRow w w0.heap.size v6 s ∧ (ar + N.way.length ≤ s.length + dd ∧ dd ≤ k ∧ ar ≤ k ∧ s.length ≤ k) ∧ Snt N s ∧ Below w0.heap.size w0 w
def TrX (w0 : World) (g k : Nat) (v6 v7 v8 : Value) (w : World) : Prop := ∃ (N : NetS) (s : List Msg) (dd ar : Nat), v7 = .int .i64 (dd : Int) ∧ v8 = .int .i64 (ar : Int) ∧ TrM w0 g k N s dd ar v6 w
def TrS (w0 : World) (g n : Nat) (w : World) (v6 v7 v8 iv : Value) : Prop := ∃ k : Nat, iv = .int .i64 (k : Int) ∧ k ≤ n ∧ TrX w0 g k v6 v7 v8 w
def ThS (w0 : World) (m : Msg) (s : List Msg) (w : World) (tv kv : Value) : Prop := ∃ (k : Nat) (t : Bool), kv = .int .i64 (k : Int) ∧ tv = .bool t ∧ k ≤ s.length ∧ (m ∈ s.take k → t = true) ∧ (∃ q, w = w0.drewN q)
theorem drewN_drewN (w : World) (a b : Nat) : (w.drewN a).drewN b = w.drewN (a + b) := by
  unfold World.drewN
  simp only [Nat.add_assoc]
set_option maxHeartbeats 16000000 in
set_option maxRecDepth 1000000 in
theorem walk_netTrue (n : Int) (v : Value) (l : List NDeed) (w : World) (_hn : (Lit.int .i64 n).wf = true) (h : NDeedArg w v l) (hwf : ∀ x ∈ l, x.wf) :
    Calls Try.prog 15 #[.int .i64 n, v] w fun e w' => e = .returned (.bool true) ∧ Below w.heap.size w w' := by
  have hlen : l.length ≤ 9223372036854775807 := Nat.le_trans h.len (by decide)
  obtain ⟨A, c, hv⟩ := h.slice
  subst hv
  have HD := hide h
  have HWF := hide hwf
  clear h hwf
  rcases Nat.lt_or_ge 120 l.length with h120 | h120
  · go_enter Try.func15, Try.ntmps15
    go_wp2_with fail
    refine (few13_far _ _ _ _ h120).mono ?_
    rintro e w1 ⟨rfl, rfl⟩
    go_wp2_with fail
    refine (awake13 _).mono ?_
    rintro e w1 ⟨rfl, hb1⟩
    go_wp2
    go_ret
    exact ⟨rfl, hb1⟩
  go_enter Try.func15, Try.ntmps15
  go_wp2_with fail
  refine (few13_ok _ _ _ _ h120).mono ?_
  rintro e w1 ⟨rfl, rfl⟩
  go_wp2_with fail
  refine (new_net n _).mono ?_
  rintro e w1 ⟨rfl, hn1, hb1⟩
  obtain ⟨g, hg⟩ : ∃ g, g = w.heap.size + 1 := ⟨_, rfl⟩
  rw [← hg] at hn1
  rw [← hg]
  have HST : Hid (TrS w g l.length w1 (.slice none 0 0) (.int .i64 0) (.int .i64 0) (.int .i64 0)) := hide ⟨0, rfl, Nat.zero_le _, net0 n, [], 0, 0, rfl, rfl, hn1, World.ownsRow_nil _ _ _ _, ⟨Nat.zero_le _, Nat.le_refl _, Nat.le_refl _, Nat.le_refl _⟩, (fun p hp => by simp [net0] at hp), hb1⟩
  have HGW := hide hg
  clear hg hn1 hb1
  go_wp2_with fail
  go_loopw [6, 7, 8, 9] (fun v6 v7 v8 iv wr => TrS w g l.length wr v6 v7 v8 iv) (fun _ _ _ iv _ => l.length - (intOf iv).toNat)
  case atStart => exact HST.out
  case round =>
    obtain ⟨k, rfl, hk, N, s, dd, ar, rfl, rfl, hN, hS, ⟨q1, q2, q3, q4⟩, hT, hB⟩ := hrel
    rcases Nat.lt_or_ge k l.length with hkl | hkl
    · obtain ⟨a, cap, hv, hc1, hc2, c0, c1, c2, c3, c4, c5, c6, c7, c8⟩ := (HD.out.below hB).cells hkl
      cases hv
      have hdw := HWF.out l[k] (List.getElem_mem hkl)
      generalize l[k] = d at c0 c1 c2 c3 c4 c5 c6 c7 c8 hdw
      have hsz : d.m.b.size ≤ 9223372036854775807 := by have h9 : d.m.b.size ≤ maxLen := hdw.2.2.2.2.2.2.2.2; simp only [maxLen] at h9; omega
      have hal := (Below.refl wr.heap.size wr).alloc (Nat.le_refl _) (.cells #[.int .i64 d.kind, .int .i64 d.a, .int .i64 d.b, .int .i64 d.c, .int .i64 d.m.k, .int .i64 d.m.f, .int .i64 d.m.t, .int .i64 d.m.i, .string d.m.b] 111)
      have HN := hide (hN.below hal)
      have HS := hide (hS.below hal)
      have HT := hide hT
      have HB := hide (hB.trans (hal.mono hB.size))
      have HX := hide (obj_new wr (.cells #[.int .i64 d.kind, .int .i64 d.a, .int .i64 d.b, .int .i64 d.c, .int .i64 d.m.k, .int .i64 d.m.f, .int .i64 d.m.t, .int .i64 d.m.i, .string d.m.b] 111))
      obtain ⟨bd, hbd⟩ : ∃ b, b = wr.heap.size := ⟨_, rfl⟩
      rw [← hbd] at HX
      have HBD := hide hbd
      clear hal hN hS hT hB hbd hdw
      go_upto_if 33 with fail
      rw [← HBD.out]
      clear c0 c1 c2 c3 c4 c5 c6 c7 c8
      obtain ⟨W, hW⟩ : ∃ W, W = wr.alloc (.cells #[.int .i64 d.kind, .int .i64 d.a, .int .i64 d.b, .int .i64 d.c, .int .i64 d.m.k, .int .i64 d.m.f, .int .i64 d.m.t, .int .i64 d.m.i, .string d.m.b] 111) := ⟨_, rfl⟩
      rw [← hW] at HN HS HB HX ⊢
      clear hW HBD
      by_cases hk0_0 : d.kind = 0
      · have z0 := obj_cell HX.out 0
        simp only [List.getElem?_toArray, List.getElem?_cons_zero] at z0
        rw [hk0_0] at z0 ⊢
        have z4 := obj_cell HX.out 4
        have z5 := obj_cell HX.out 5
        have z6 := obj_cell HX.out 6
        have z7 := obj_cell HX.out 7
        have z8 := obj_cell HX.out 8
        simp only [List.getElem?_toArray, List.getElem?_cons_zero, List.getElem?_cons_succ] at z4 z5 z6 z7 z8
        obtain ⟨o, ec, hE, _, ho⟩ := enc13 d.m.k d.m.f d.m.t d.m.i d.m.b hsz
        have HSE := hide (send_net HN.out d.m.k d.m.f d.m.t d.m.i d.m.b o ec hE (fun h => (ho h).1))
        have HO := hide ho
        clear hE ho
        go_wp2_with fail
        refine HSE.out.mono ?_
        rintro e w2 ⟨rfl, hn2, hk2⟩
        have HN2 := hide hn2
        have HS2 := hide (HS.out.keep hk2)
        have HX2 := hide (hk2.obj HX.out (by decide) (by decide))
        have HB2 := hide (KeepN.on HB.out HB.out.size hk2)
        clear hn2 hk2 HSE z4 z5 z6 z7 z8
        rcases hy : sendY N d.m.f d.m.t ec with _ | _
        · have HREL := hide (show TrX w g (k + 1) u6 (.int .i64 (dd : Int)) (.int .i64 (ar : Int)) w2 from ⟨N, s, dd, ar, rfl, rfl, (by have := HN2.out; unfold sendX at this; rwa [hy, if_neg (by decide)] at this), HS2.out, ⟨q1, by omega, by omega, by omega⟩, HT.out, HB2.out⟩)
          clear hy
          obtain ⟨N2, s2, dd2, ar2, e7, e8, hN2, hS2, ⟨r1, r2, r3, r4⟩, hT2, hB2⟩ := HREL.out
          have hRR : TrS w g l.length w2 u6 (.int .i64 (dd : Int)) (.int .i64 (ar : Int)) (.int .i64 ((k + 1 : Nat) : Int)) := ⟨k + 1, rfl, hkl, HREL.out⟩
          obtain ⟨A7, c7, hv7⟩ := row_slice_n hS2
          simp only [Value.int.injEq, true_and] at e7 e8
          have hle : ¬ ((s2.length : Int) + (dd : Int)) < ((ar : Int) + (N2.way.length : Int)) := by omega
          have HN2 := hide hN2
          have HRR := hide hRR
          clear e7 e8 hN2 hRR hS2 hT2 hB2 HREL
          subst hv7
          go_wp2_with fail
          refine (waiting_net HN2.out).mono ?_
          rintro e wz ⟨rfl, rfl⟩
          go_wp2
          go_roundw
          case rel => exact HRR.out
          case measure => simp [intOf]; omega
        · have hcs := of_decide_eq_true hy
          have hec : ec = 0 := hcs.2
          have hX : sendX N d.m.f d.m.t o ec = sendN N d.m.f d.m.t o.data.toList := by unfold sendX; rw [hy, if_pos rfl]
          obtain ⟨v2, w3, hrun, hS3, hf3⟩ := app_msg HS2.out d.m (by omega) HB2.out.size 109
          have HRUN := hide hrun
          have hvb : ∀ j, u6.ownBlock = some j → ¬ j < w.heap.size := fun j hj => by
            rcases HS2.out.2 with ⟨e, _⟩ | ⟨gg, cp, cur, e, h2, _⟩
            · rw [e] at hj; cases hj
            · rw [e] at hj
              have hj2 : gg = j := by simpa [Value.ownBlock] using hj
              omega
          have hN3 : Net w3 w.heap.size g (sendN N d.m.f d.m.t o.data.toList) := by
            have hN2 := HN2.out
            rw [hX] at hN2
            obtain ⟨⟨v, c, h1, h2⟩, h3⟩ := hN2
            refine ⟨⟨v, c, h1.fr hf3 (fun e => row_ne_t HS2.out h1.1 (by decide) e) (row_ne_m HS2.out h1.2.2) (fun j hj e => ?_), h2⟩, h3⟩
            obtain ⟨_, hq⟩ := row_typed_n h1.2.1 hj
            obtain ⟨_, hq'⟩ := row_typed_n HS2.out e
            obtain ⟨cs, hq⟩ := hq
            obtain ⟨cs', hq'⟩ := hq'
            rw [hq] at hq'
            simp at hq'
          have HREL := hide (show TrX w g (k + 1) v2 (.int .i64 (dd : Int)) (.int .i64 (ar : Int)) w3 from ⟨sendN N d.m.f d.m.t o.data.toList, s ++ [d.m], dd, ar, rfl, rfl, hN3, hS3, ⟨by simp [sendN]; omega, by omega, by omega, by simp; omega⟩, (fun p hp => by
            simp only [sendN, List.mem_append, List.mem_singleton] at hp
            rcases hp with hp | rfl
            · obtain ⟨m, hm, he⟩ := HT.out p hp
              exact ⟨m, List.mem_append_left _ hm, he⟩
            · exact ⟨d.m, by simp, (HO.out hec).2.1⟩), HB2.out.trans (hf3.below _ HB2.out.size (fun j hj e => hvb j e hj))⟩)
          have z4 := obj_cell HX2.out 4
          have z5 := obj_cell HX2.out 5
          have z6 := obj_cell HX2.out 6
          have z7 := obj_cell HX2.out 7
          have z8 := obj_cell HX2.out 8
          simp only [List.getElem?_toArray, List.getElem?_cons_zero, List.getElem?_cons_succ] at z4 z5 z6 z7 z8
          clear hcs hec hX hrun hvb hN3 hS3 hf3 hy
          obtain ⟨N2, s2, dd2, ar2, e7, e8, hN2, hS2, ⟨r1, r2, r3, r4⟩, hT2, hB2⟩ := HREL.out
          have hRR : TrS w g l.length w3 v2 (.int .i64 (dd : Int)) (.int .i64 (ar : Int)) (.int .i64 ((k + 1 : Nat) : Int)) := ⟨k + 1, rfl, hkl, HREL.out⟩
          obtain ⟨A7, c7, hv7⟩ := row_slice_n hS2
          simp only [Value.int.injEq, true_and] at e7 e8
          have hle : ¬ ((s2.length : Int) + (dd : Int)) < ((ar : Int) + (N2.way.length : Int)) := by omega
          have HN2 := hide hN2
          have HRR := hide hRR
          clear e7 e8 hN2 hRR hS2 hT2 hB2 HREL
          subst hv7
          go_wp2_with (at_builtin; refine wpList_append_run rfl (.tmp 39) (.tmp 42) 109 109 rfl rfl rfl HRUN.out ?_)
          refine (waiting_net HN2.out).mono ?_
          rintro e wz ⟨rfl, rfl⟩
          go_wp2
          go_roundw
          case rel => exact HRR.out
          case measure => simp [intOf]; omega
      have hk0 : (d.kind == 0) = false := by simp [hk0_0]
      by_cases hk0_1 : d.kind = 1
      · have z0 := obj_cell HX.out 0
        simp only [List.getElem?_toArray, List.getElem?_cons_zero] at z0
        rw [hk0_1] at z0 ⊢
        have z1 := obj_cell HX.out 1
        simp only [List.getElem?_toArray, List.getElem?_cons_zero, List.getElem?_cons_succ] at z1
        go_wp2_with fail
        refine (deliver_net HN.out d.a).mono ?_
        rintro e w2 ⟨rfl, hn2, hk2⟩
        have hdv := dv_sent HT.out d.a
        obtain ⟨q, hq⟩ : ∃ q, q = (dvM N d.a).1 := ⟨_, rfl⟩
        obtain ⟨y, hy⟩ : ∃ y, y = (dvM N d.a).2 := ⟨_, rfl⟩
        rw [← hq, ← hy] at hdv
        rw [← hq, ← hy]
        have hal := (Below.refl w2.heap.size w2).alloc (Nat.le_refl _) (.cells #[.int .i64 q.k, .int .i64 q.f, .int .i64 q.t, .int .i64 q.i, .string q.b] 63)
        have HN2 := hide (hn2.below hal)
        have HS2 := hide ((HS.out.keep hk2).below hal)
        have hB2 := KeepN.on HB.out HB.out.size hk2
        have HB2 := hide (hB2.trans (hal.mono hB2.size))
        have HQ2 := hide (obj_new w2 (.cells #[.int .i64 q.k, .int .i64 q.f, .int .i64 q.t, .int .i64 q.i, .string q.b] 63))
        have HDV := hide hdv
        clear hn2 hk2 hq hy hal hB2 hdv z1
        obtain ⟨W2, hW2⟩ : ∃ W, W = w2.alloc (.cells #[.int .i64 q.k, .int .i64 q.f, .int .i64 q.t, .int .i64 q.i, .string q.b] 63) := ⟨_, rfl⟩
        rw [← hW2] at HN2 HS2 HB2 HQ2
        unfold Msg.cells
        rcases y with _ | _
        · have HREL := hide (show TrX w g (k + 1) u6 (.int .i64 (dd : Int)) (.int .i64 (ar : Int)) W2 from ⟨dropX N d.a, s, dd, ar, rfl, rfl, HN2.out, HS2.out, ⟨by have := drop_len N d.a; omega, by omega, by omega, by omega⟩, HT.out.drop d.a, HB2.out⟩)
          rw [hW2] at HREL
          clear hW2
          obtain ⟨N2, s2, dd2, ar2, e7, e8, hN2, hS2, ⟨r1, r2, r3, r4⟩, hT2, hB2⟩ := HREL.out
          have hRR : TrS w g l.length (w2.alloc (.cells #[.int .i64 q.k, .int .i64 q.f, .int .i64 q.t, .int .i64 q.i, .string q.b] 63)) u6 (.int .i64 (dd : Int)) (.int .i64 (ar : Int)) (.int .i64 ((k + 1 : Nat) : Int)) := ⟨k + 1, rfl, hkl, HREL.out⟩
          obtain ⟨A7, c7, hv7⟩ := row_slice_n hS2
          simp only [Value.int.injEq, true_and] at e7 e8
          have hle : ¬ ((s2.length : Int) + (dd : Int)) < ((ar : Int) + (N2.way.length : Int)) := by omega
          have HN2 := hide hN2
          have HRR := hide hRR
          clear e7 e8 hN2 hRR hS2 hT2 hB2 HREL
          subst hv7
          go_wp2_with fail
          refine (waiting_net HN2.out).mono ?_
          rintro e wz ⟨rfl, rfl⟩
          go_wp2
          go_roundw
          case rel => exact HRR.out
          case measure => simp [intOf]; omega
        · obtain ⟨hmem, h0⟩ := HDV.out rfl
          have HREL := hide (fun nq => show TrX w g (k + 1) u6 (.int .i64 (dd : Int)) (.int .i64 ((ar + 1 : Nat) : Int)) (W2.drewN nq) from ⟨dropX N d.a, s, dd, ar + 1, rfl, rfl, HN2.out.below (below_drewN (Below.refl _ _) nq), HS2.out.below (below_drewN (Below.refl _ _) nq), ⟨by have := drop_len1 N d.a h0; omega, by omega, by omega, by omega⟩, HT.out.drop d.a, below_drewN HB2.out nq⟩)
          have HMEM := hide hmem
          have HTS : Hid (ThS W2 q s W2 (.bool false) (.int .i64 0)) := hide ⟨0, false, rfl, rfl, Nat.zero_le _, (fun h => by simp at h), 0, rfl⟩
          obtain ⟨A6, c6, hv6⟩ := row_slice_n HS2.out
          have hs63 : s.length ≤ 9223372036854775806 := by omega
          clear hmem h0 HDV
          subst hv6
          go_wp2_with fail
          rw [← hW2]
          have HW2 := hide hW2
          clear hW2
          go_loopw [13, 14] (fun tv kv wx => ThS W2 q s wx tv kv) (fun _ kv _ => s.length - (intOf kv).toNat)
          case atStart => exact HTS.out
          case round =>
            obtain ⟨k2, t2, rfl, rfl, hk2, ht2, qq, hqq⟩ := hrel
            have HQQ := hide hqq
            have HB63 : Hid (Below W2.heap.size W2 wr) := hide (by rw [hqq]; exact below_drewN (Below.refl _ _) qq)
            clear hqq
            rcases Nat.lt_or_ge k2 s.length with hks | hks
            · obtain ⟨r, cap, hv6, hcc, hcm, e0, e1, e2, e3, e4⟩ := (HS2.out.below HB63.out).cells hks
              cases hv6
              have hcm' : c6 ≤ 9223372036854775807 := by simp only [maxLen] at hcm; omega
              have HQd := obj_below HQ2.out HB63.out
              have y0 := obj_cell HQd 0
              have y1 := obj_cell HQd 1
              have y2 := obj_cell HQd 2
              have y3 := obj_cell HQd 3
              have y4 := obj_cell HQd 4
              simp only [List.getElem?_toArray, List.getElem?_cons_zero, List.getElem?_cons_succ] at y0 y1 y2 y3 y4
              have HEQ := hide (fun wx => eql63 s[k2] q wx)
              have HTT := hide ht2
              have hnx : ThS W2 q s wr.drew (.bool (t2 || msgEq s[k2] q)) (.int .i64 ((k2 + 1 : Nat) : Int)) := ⟨k2 + 1, _, rfl, rfl, hks, (fun hm => by
                rw [List.take_succ_eq_append_getElem hks, List.mem_append, List.mem_singleton] at hm
                rcases hm with hm | hm
                · rw [ht2 hm, Bool.true_or]
                · rw [msgEq_iff.2 hm.symm, Bool.or_true]), qq + 1, by rw [HQQ.out]; rfl⟩
              have HNX := hide hnx
              clear hnx ht2 HQd
              generalize s[k2] = u at e0 e1 e2 e3 e4 HEQ HNX
              rcases t2 with _ | _
              · rw [Bool.false_or] at HNX
                go_wp2_with fail
                refine wp_stl 9 (by kernel_rfl) (by kernel_rfl) ?_
                simp only [List.take_succ_cons, List.take_zero, List.drop_succ_cons, List.drop_zero]
                repeat (first | (refine wpStill_binop .eql 63 (.tmp 67) (.tmp 68) 63 rfl rfl rfl rfl (guard63 _ _ _ _ _) (HEQ.out _) ?_) | still_step)
                refine wpStill_nil ?_
                go_wp2
                go_roundw
                case rel => exact HNX.out
                case measure => simp [intOf]; omega
              · rw [Bool.true_or] at HNX
                have HNY : Hid (∀ nq, ThS W2 q s (wr.drewN nq) (.bool true) (.int .i64 ((k2 + 1 : Nat) : Int))) := hide (fun nq => by
                  obtain ⟨_, _, h1, h2, h3, h4, h5⟩ := HNX.out
                  exact ⟨_, _, h1, h2, h3, h4, qq + nq, by rw [HQQ.out]; exact drewN_drewN _ _ _⟩)
                clear HNX e0 e1 e2 e3 e4 HEQ
                go_wp2_with fail
                go_quiet (fail)
                go_wp2
                go_roundw
                case rel => exact HNY.out nq
                case measure => simp [intOf]; omega
            · obtain rfl : k2 = s.length := by omega
              rw [List.take_length] at ht2
              obtain rfl := ht2 HMEM.out
              have HRQ : Hid (TrX w g (k + 1) (.slice A6 s.length c6) (.int .i64 (dd : Int)) (.int .i64 ((ar + 1 : Nat) : Int)) wr) := hide (by rw [HQQ.out]; exact HREL.out qq)
              obtain ⟨N2, s2, dd2, ar2, e7, e8, hN2, hS2, ⟨r1, r2, r3, r4⟩, hT2, hB2⟩ := HRQ.out
              have hRR : TrS w g l.length wr (.slice A6 s.length c6) (.int .i64 (dd : Int)) (.int .i64 ((ar + 1 : Nat) : Int)) (.int .i64 ((k + 1 : Nat) : Int)) := ⟨k + 1, rfl, hkl, HRQ.out⟩
              obtain ⟨A7, c7, hv7⟩ := row_slice_n hS2
              simp only [Value.int.injEq, true_and] at e7 e8
              simp only [Value.slice.injEq] at hv7
              obtain ⟨-, h9, -⟩ := hv7
              have hle : ¬ ((s.length : Int) + (dd : Int)) < (((ar : Int) + 1) + (N2.way.length : Int)) := by omega
              have HN2 := hide hN2
              have HRR := hide hRR
              clear e7 e8 hN2 hRR hS2 hT2 hB2 HRQ h9
              go_wp2_with fail
              refine (waiting_net HN2.out).mono ?_
              rintro e wz ⟨rfl, rfl⟩
              go_wp2
              go_roundw
              case rel => exact HRR.out
              case measure => simp [intOf]; omega
      have hk1 : (d.kind == 1) = false := by simp [hk0_1]
      by_cases hk0_2 : d.kind = 2
      · have z0 := obj_cell HX.out 0
        simp only [List.getElem?_toArray, List.getElem?_cons_zero] at z0
        rw [hk0_2] at z0 ⊢
        have z1 := obj_cell HX.out 1
        simp only [List.getElem?_toArray, List.getElem?_cons_zero, List.getElem?_cons_succ] at z1
        go_wp2_with fail
        refine (drop_net HN.out d.a).mono ?_
        rintro e w2 ⟨rfl, hn2, hk2⟩
        have HREL := hide (show TrX w g (k + 1) u6 (.int .i64 (dd : Int)) (.int .i64 (ar : Int)) w2 from ⟨dropX N d.a, s, dd, ar, rfl, rfl, hn2, HS.out.keep hk2, ⟨by have := drop_len N d.a; omega, by omega, by omega, by omega⟩, HT.out.drop d.a, KeepN.on HB.out HB.out.size hk2⟩)
        clear hn2 hk2
        obtain ⟨N2, s2, dd2, ar2, e7, e8, hN2, hS2, ⟨r1, r2, r3, r4⟩, hT2, hB2⟩ := HREL.out
        have hRR : TrS w g l.length w2 u6 (.int .i64 (dd : Int)) (.int .i64 (ar : Int)) (.int .i64 ((k + 1 : Nat) : Int)) := ⟨k + 1, rfl, hkl, HREL.out⟩
        obtain ⟨A7, c7, hv7⟩ := row_slice_n hS2
        simp only [Value.int.injEq, true_and] at e7 e8
        have hle : ¬ ((s2.length : Int) + (dd : Int)) < ((ar : Int) + (N2.way.length : Int)) := by omega
        have HN2 := hide hN2
        have HRR := hide hRR
        clear e7 e8 hN2 hRR hS2 hT2 hB2 HREL
        subst hv7
        go_wp2_with fail
        refine (waiting_net HN2.out).mono ?_
        rintro e wz ⟨rfl, rfl⟩
        go_wp2
        go_roundw
        case rel => exact HRR.out
        case measure => simp [intOf]; omega
      have hk2 : (d.kind == 2) = false := by simp [hk0_2]
      by_cases hk0_3 : d.kind = 3
      · have z0 := obj_cell HX.out 0
        simp only [List.getElem?_toArray, List.getElem?_cons_zero] at z0
        rw [hk0_3] at z0 ⊢
        have z1 := obj_cell HX.out 1
        simp only [List.getElem?_toArray, List.getElem?_cons_zero, List.getElem?_cons_succ] at z1
        go_wp2_with fail
        refine (double_net HN.out d.a).mono ?_
        rintro e w2 ⟨rfl, hn2, hk2⟩
        have hdl := doub_len N d.a
        rcases hy : doubY N with _ | _
        · rw [hy, if_neg (by decide)] at hdl
          have HREL := hide (show TrX w g (k + 1) u6 (.int .i64 (dd : Int)) (.int .i64 (ar : Int)) w2 from ⟨doubX N d.a, s, dd, ar, rfl, rfl, hn2, HS.out.keep hk2, ⟨by omega, by omega, by omega, by omega⟩, HT.out.doub d.a, KeepN.on HB.out HB.out.size hk2⟩)
          clear hn2 hk2 hdl hy
          obtain ⟨N2, s2, dd2, ar2, e7, e8, hN2, hS2, ⟨r1, r2, r3, r4⟩, hT2, hB2⟩ := HREL.out
          have hRR : TrS w g l.length w2 u6 (.int .i64 (dd : Int)) (.int .i64 (ar : Int)) (.int .i64 ((k + 1 : Nat) : Int)) := ⟨k + 1, rfl, hkl, HREL.out⟩
          obtain ⟨A7, c7, hv7⟩ := row_slice_n hS2
          simp only [Value.int.injEq, true_and] at e7 e8
          have hle : ¬ ((s2.length : Int) + (dd : Int)) < ((ar : Int) + (N2.way.length : Int)) := by omega
          have HN2 := hide hN2
          have HRR := hide hRR
          clear e7 e8 hN2 hRR hS2 hT2 hB2 HREL
          subst hv7
          go_wp2_with fail
          refine (waiting_net HN2.out).mono ?_
          rintro e wz ⟨rfl, rfl⟩
          go_wp2
          go_roundw
          case rel => exact HRR.out
          case measure => simp [intOf]; omega
        · rw [hy, if_pos rfl] at hdl
          have HREL := hide (show TrX w g (k + 1) u6 (.int .i64 ((dd + 1 : Nat) : Int)) (.int .i64 (ar : Int)) w2 from ⟨doubX N d.a, s, dd + 1, ar, rfl, rfl, hn2, HS.out.keep hk2, ⟨by omega, by omega, by omega, by omega⟩, HT.out.doub d.a, KeepN.on HB.out HB.out.size hk2⟩)
          clear hn2 hk2 hdl hy
          obtain ⟨N2, s2, dd2, ar2, e7, e8, hN2, hS2, ⟨r1, r2, r3, r4⟩, hT2, hB2⟩ := HREL.out
          have hRR : TrS w g l.length w2 u6 (.int .i64 ((dd + 1 : Nat) : Int)) (.int .i64 (ar : Int)) (.int .i64 ((k + 1 : Nat) : Int)) := ⟨k + 1, rfl, hkl, HREL.out⟩
          obtain ⟨A7, c7, hv7⟩ := row_slice_n hS2
          simp only [Value.int.injEq, true_and] at e7 e8
          have hle : ¬ ((s2.length : Int) + ((dd : Int) + 1)) < ((ar : Int) + (N2.way.length : Int)) := by omega
          have HN2 := hide hN2
          have HRR := hide hRR
          clear e7 e8 hN2 hRR hS2 hT2 hB2 HREL
          subst hv7
          go_wp2_with fail
          refine (waiting_net HN2.out).mono ?_
          rintro e wz ⟨rfl, rfl⟩
          go_wp2
          go_roundw
          case rel => exact HRR.out
          case measure => simp [intOf]; omega
      have hk3 : (d.kind == 3) = false := by simp [hk0_3]
      by_cases hk0_5 : d.kind = 5
      · have z0 := obj_cell HX.out 0
        simp only [List.getElem?_toArray, List.getElem?_cons_zero] at z0
        rw [hk0_5] at z0 ⊢
        have z1 := obj_cell HX.out 1
        have z2 := obj_cell HX.out 2
        simp only [List.getElem?_toArray, List.getElem?_cons_zero, List.getElem?_cons_succ] at z1 z2
        go_wp2_with fail
        refine (cut_net HN.out d.a d.b true).mono ?_
        rintro e w2 ⟨rfl, hn2, hk2⟩
        have HREL := hide (show TrX w g (k + 1) u6 (.int .i64 (dd : Int)) (.int .i64 (ar : Int)) w2 from ⟨cutX N d.a d.b true, s, dd, ar, rfl, rfl, hn2, HS.out.keep hk2, ⟨by rw [cut_way]; omega, by omega, by omega, by omega⟩, (fun p hp => HT.out p (by rwa [cut_way] at hp)), KeepN.on HB.out HB.out.size hk2⟩)
        clear hn2 hk2
        obtain ⟨N2, s2, dd2, ar2, e7, e8, hN2, hS2, ⟨r1, r2, r3, r4⟩, hT2, hB2⟩ := HREL.out
        have hRR : TrS w g l.length w2 u6 (.int .i64 (dd : Int)) (.int .i64 (ar : Int)) (.int .i64 ((k + 1 : Nat) : Int)) := ⟨k + 1, rfl, hkl, HREL.out⟩
        obtain ⟨A7, c7, hv7⟩ := row_slice_n hS2
        simp only [Value.int.injEq, true_and] at e7 e8
        have hle : ¬ ((s2.length : Int) + (dd : Int)) < ((ar : Int) + (N2.way.length : Int)) := by omega
        have HN2 := hide hN2
        have HRR := hide hRR
        clear e7 e8 hN2 hRR hS2 hT2 hB2 HREL
        subst hv7
        go_wp2_with fail
        refine (waiting_net HN2.out).mono ?_
        rintro e wz ⟨rfl, rfl⟩
        go_wp2
        go_roundw
        case rel => exact HRR.out
        case measure => simp [intOf]; omega
      have hk5 : (d.kind == 5) = false := by simp [hk0_5]
      by_cases hk0_6 : d.kind = 6
      · have z0 := obj_cell HX.out 0
        simp only [List.getElem?_toArray, List.getElem?_cons_zero] at z0
        rw [hk0_6] at z0 ⊢
        have z1 := obj_cell HX.out 1
        have z2 := obj_cell HX.out 2
        simp only [List.getElem?_toArray, List.getElem?_cons_zero, List.getElem?_cons_succ] at z1 z2
        go_wp2_with fail
        refine (cut_net HN.out d.a d.b false).mono ?_
        rintro e w2 ⟨rfl, hn2, hk2⟩
        have HREL := hide (show TrX w g (k + 1) u6 (.int .i64 (dd : Int)) (.int .i64 (ar : Int)) w2 from ⟨cutX N d.a d.b false, s, dd, ar, rfl, rfl, hn2, HS.out.keep hk2, ⟨by rw [cut_way]; omega, by omega, by omega, by omega⟩, (fun p hp => HT.out p (by rwa [cut_way] at hp)), KeepN.on HB.out HB.out.size hk2⟩)
        clear hn2 hk2
        obtain ⟨N2, s2, dd2, ar2, e7, e8, hN2, hS2, ⟨r1, r2, r3, r4⟩, hT2, hB2⟩ := HREL.out
        have hRR : TrS w g l.length w2 u6 (.int .i64 (dd : Int)) (.int .i64 (ar : Int)) (.int .i64 ((k + 1 : Nat) : Int)) := ⟨k + 1, rfl, hkl, HREL.out⟩
        obtain ⟨A7, c7, hv7⟩ := row_slice_n hS2
        simp only [Value.int.injEq, true_and] at e7 e8
        have hle : ¬ ((s2.length : Int) + (dd : Int)) < ((ar : Int) + (N2.way.length : Int)) := by omega
        have HN2 := hide hN2
        have HRR := hide hRR
        clear e7 e8 hN2 hRR hS2 hT2 hB2 HREL
        subst hv7
        go_wp2_with fail
        refine (waiting_net HN2.out).mono ?_
        rintro e wz ⟨rfl, rfl⟩
        go_wp2
        go_roundw
        case rel => exact HRR.out
        case measure => simp [intOf]; omega
      have hk6 : (d.kind == 6) = false := by simp [hk0_6]
      have z0 := obj_cell HX.out 0
      simp only [List.getElem?_toArray, List.getElem?_cons_zero] at z0
      have HREL := hide (show TrX w g (k + 1) u6 (.int .i64 (dd : Int)) (.int .i64 (ar : Int)) W from ⟨N, s, dd, ar, rfl, rfl, HN.out, HS.out, ⟨by omega, by omega, by omega, by omega⟩, HT.out, HB.out⟩)
      obtain ⟨N2, s2, dd2, ar2, e7, e8, hN2, hS2, ⟨r1, r2, r3, r4⟩, hT2, hB2⟩ := HREL.out
      have hRR : TrS w g l.length W u6 (.int .i64 (dd : Int)) (.int .i64 (ar : Int)) (.int .i64 ((k + 1 : Nat) : Int)) := ⟨k + 1, rfl, hkl, HREL.out⟩
      obtain ⟨A7, c7, hv7⟩ := row_slice_n hS2
      simp only [Value.int.injEq, true_and] at e7 e8
      have hle : ¬ ((s2.length : Int) + (dd : Int)) < ((ar : Int) + (N2.way.length : Int)) := by omega
      have HN2 := hide hN2
      have HRR := hide hRR
      clear e7 e8 hN2 hRR hS2 hT2 hB2 HREL
      subst hv7
      go_wp2_with fail
      refine (waiting_net HN2.out).mono ?_
      rintro e wz ⟨rfl, rfl⟩
      go_wp2
      go_roundw
      case rel => exact HRR.out
      case measure => simp [intOf]; omega
    · obtain rfl : k = l.length := by omega
      have HB := hide hB
      go_wp2_with fail
      refine (awake13 _).mono ?_
      rintro e wz ⟨rfl, hbz⟩
      go_wp2
      go_ret
      exact ⟨rfl, HB.out.trans (hbz.mono HB.out.size)⟩
end Go.Proofs.Ytljmaicobafgkaa
end
