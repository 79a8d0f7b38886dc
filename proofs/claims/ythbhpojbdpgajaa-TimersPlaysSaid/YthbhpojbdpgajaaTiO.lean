/- Chapter 07, timers: the walk of TimersOnce. -/
import Derived.Test.YthbhpojbdpgajaaTiD
namespace Go.Proofs.Ythbhpojbdpgajaa
open Go.RowKit

theorem TDeedArg.at {w : World} {A : Option Addr} {n c : Nat} {l : List TDeed} (h : TDeedArg w (.slice A n c) l) {k : Nat} (hk : k < l.length) : ∃ a, A = some a ∧ l.length ≤ c ∧ c ≤ maxLen ∧ ∀ w', Below w.heap.size w w' →
    w'.cell? (a.add (k * 3)) = some (.int .i64 l[k].kind) ∧ w'.cell? ⟨(a.add (k * 3)).block, (a.add (k * 3)).off + 1, none⟩ = some (.int .i64 l[k].id) ∧ w'.cell? ⟨(a.add (k * 3)).block, (a.add (k * 3)).off + 2, none⟩ = some (.int .i64 l[k].at_) := by
  obtain ⟨a, cap, e, h1, h2, q0, q1, q2⟩ := h.cells hk
  cases e
  exact ⟨a, rfl, h1, h2, fun w' hb => ⟨(hb.cell (World.block_lt_of_cell? _ _ q0)).trans q0, (hb.cell (World.block_lt_of_cell? _ _ q1)).trans q1, (hb.cell (World.block_lt_of_cell? _ _ q2)).trans q2⟩⟩
def On1 (w : World) (t p c ll : Nat) (wr : World) (iv : Value) : Prop :=
  ∃ (k : Nat) (v : Value) (x : List Tm), iv = .int .i64 (k : Int) ∧ k ≤ ll ∧ TX wr w.heap.size t p c v x ∧ TOk x ∧ Below w.heap.size w wr
def On2 (w2 : World) (n : Nat) (wr : World) (iv : Value) : Prop := ∃ k : Nat, iv = .int .i64 (k : Int) ∧ k ≤ n ∧ Below w2.heap.size w2 wr
/-- Behind the timers that were due already. -/
def On3 (w : World) (t p c n : Nat) (v av : Value) (x : List Tm) (wr : World) (iv : Value) : Prop :=
  ∃ (i : Nat) (v' : Value), iv = .int .i64 (i : Int) ∧ i ≤ n ∧ TX wr w.heap.size t p c v' (x.drop i) ∧ v'.ownBlock = v.ownBlock ∧ kT.row wr w.heap.size av x ∧ Below w.heap.size w wr
theorem drop_at {x : List Tm} {i : Nat} (h : i < x.length) : x.drop i = tat x i :: x.drop (i + 1) := by rw [tat_eq h]; exact List.drop_eq_getElem_cons h
theorem srt_at {x : List Tm} (hs : x.Pairwise Tlt) {i j : Nat} (hij : i < j) (hj : j < x.length) : Tlt (tat x i) (tat x j) := by
  rw [tat_eq (by omega), tat_eq hj]
  exact List.pairwise_iff_getElem.1 hs i j (by omega) hj hij
theorem due_none {x : List Tm} {n : Int} (h : ∀ y ∈ x, n < y.at_) : tDue x n = (x, []) := by
  unfold tDue
  rw [List.filter_eq_self.2 (fun y hy => by simpa using h y hy), List.filter_eq_nil_iff.2 (fun y hy => by have := h y hy; simp; omega)]
  rfl
/-- All of the first moment, and the others. -/
theorem due_first {x : List Tm} (hs : x.Pairwise Tlt) {i : Nat} (hi : i < x.length) : ∃ m, 0 < m ∧ i + m ≤ x.length ∧ tDue (x.drop i) (tat x i).at_ = (x.drop (i + m), ((x.drop i).take m).map (·.id)) ∧ ∀ k, k < m → (tat x (i + k)).at_ = (tat x i).at_ := by
  obtain ⟨a, ha⟩ : ∃ a, a = (x.drop i).takeWhile (fun t => decide (t.at_ ≤ (tat x i).at_)) := ⟨_, rfl⟩
  obtain ⟨b, hb⟩ : ∃ b, b = (x.drop i).dropWhile (fun t => decide (t.at_ ≤ (tat x i).at_)) := ⟨_, rfl⟩
  have hab : x.drop i = a ++ b := by rw [ha, hb, List.takeWhile_append_dropWhile]
  have hsd : (x.drop i).Pairwise Tlt := hs.sublist (List.drop_sublist _ _)
  have h0 : 0 < a.length := by
    rw [ha, drop_at hi, List.takeWhile_cons, if_pos (by simp)]
    simp
  have hlen : a.length + b.length = x.length - i := by
    have := congrArg List.length hab
    rw [List.length_drop, List.length_append] at this
    omega
  have hal : ∀ y ∈ a, y.at_ ≤ (tat x i).at_ := fun y hy => by
    have h1 := List.all_takeWhile (p := fun t : Tm => decide (t.at_ ≤ (tat x i).at_)) (l := x.drop i)
    rw [← ha] at h1
    simpa using List.all_eq_true.1 h1 y hy
  have hbl : ∀ y ∈ b, (tat x i).at_ < y.at_ := by
    rcases e : b with _ | ⟨d, dl⟩
    · intro y hy
      simp at hy
    · have hd : decide (d.at_ ≤ (tat x i).at_) = false := dropWhile_head (p := fun t : Tm => decide (t.at_ ≤ (tat x i).at_)) (by rw [← hb, e])
      have hsb : (d :: dl).Pairwise Tlt := by
        rw [hab, List.pairwise_append] at hsd
        rw [← e]
        exact hsd.2.1
      exact later hsb (by simp at hd; omega)
  have hta : (x.drop i).take a.length = a := by rw [hab, List.take_left']; rfl
  have htb : x.drop (i + a.length) = b := by rw [← List.drop_drop, hab, List.drop_left']; rfl
  refine ⟨a.length, h0, by omega, by rw [due_split hab hsd hal hbl, hta, htb], fun k hk => ?_⟩
  have hka : tat x (i + k) ∈ a := by
    have h : a[k]? = some (tat x (i + k)) := by
      rw [tat_eq (by omega), ← List.getElem?_eq_getElem, ← List.getElem?_drop, hab, List.getElem?_append_left hk]
    exact List.mem_of_getElem? h
  have h1 := hal _ hka
  rcases Nat.eq_zero_or_pos k with e | e
  · rw [e, Nat.add_zero]
  · have h2 := srt_at hs (i := i) (j := i + k) (by omega) (by omega)
    unfold Tlt at h2
    omega
def On4 (w5 : World) (i0 m : Nat) (wr : World) (iv kv : Value) : Prop := ∃ k : Nat, kv = .int .i64 (k : Int) ∧ iv = .int .i64 ((i0 + k : Nat) : Int) ∧ k ≤ m ∧ Below w5.heap.size w5 wr
set_option maxHeartbeats 16000000 in
set_option maxRecDepth 100000 in
theorem walk_timersOnce (v : Value) (l : List TDeed) (w : World) (hv : TDeedArg w v l) (_hz : ∀ x ∈ l, x.wf) :
    Calls Try.prog 5 #[v] w fun e w' => e = .returned (.bool true) ∧ Below w.heap.size w w' := by
  have AW := hide awake07
  obtain ⟨LA, lcap, rfl⟩ := hv.slice
  have hlm := hv.len
  simp only [maxLen] at hlm
  have HV := hide hv
  obtain ⟨ll, hll⟩ : ∃ ll, ll = l.length := ⟨_, rfl⟩
  rw [← hll] at hlm HV ⊢
  have HLL := hide hll
  clear hv hll _hz
  rcases Nat.lt_or_ge 64 ll with hbig | hbig
  · have hbig' : (64 : Int) < (ll : Int) := by omega
    go_enter Try.func5, Try.ntmps5
    go_wp2_with fail
    refine (AW.out _).mono ?_
    rintro e w2 ⟨rfl, hb⟩
    go_wp2
    go_ret
    exact ⟨rfl, hb⟩
  have hbig' : ¬ (64 : Int) < (ll : Int) := by omega
  go_enter Try.func5, Try.ntmps5
  go_wp2_with fail
  refine (tnew_any _).mono ?_
  rintro e w1 ⟨t, p, c, rfl, h1, hb1⟩
  have HS := hide (show On1 w t p c ll w1 (.int .i64 0) from ⟨0, _, _, rfl, Nat.zero_le _, h1, tok_nil, hb1⟩)
  clear h1 hb1
  go_wp2_with fail
  go_loopw [4] (fun iv wr => On1 w t p c ll wr iv) (fun iv _ => ll - (intOf iv).toNat)
  case atStart => exact HS.out
  case round =>
    obtain ⟨k, v, x, rfl, hk, ht, hx, hb⟩ := hrel
    have HT := hide ht
    have HX := hide hx
    have HB := hide hb
    rcases Nat.lt_or_ge k ll with hkl | hkl
    · obtain ⟨a, rfl, hc1, hc2, hcell⟩ := HV.out.at (k := k) (by have := HLL.out; omega)
      simp only [maxLen] at hc2
      obtain ⟨q0, q1, q2⟩ := hcell wr hb
      obtain ⟨d, hde⟩ : ∃ d, d = l[k]'(by have := HLL.out; omega) := ⟨_, rfl⟩
      rw [← hde] at q0 q1 q2
      obtain ⟨kd, id, at_⟩ := d
      simp only at q0 q1 q2
      have hcapi : ll ≤ lcap := by have := HLL.out; omega
      have hkli : (k : Int) < (ll : Int) := by omega
      have HSET := hide (tset_any (show TX wr.drew w.heap.size t p c v x from ht) hx id at_)
      clear hcell hde hc1 hb ht hx q0
      go_wp2_with fail
      refine wp_stl 11 (by kernel_rfl) (by kernel_rfl) ?_
      simp only [List.take_succ_cons, List.take_zero, List.drop_succ_cons, List.drop_zero]
      repeat still_step
      refine wpStill_nil ?_
      clear q1 q2
      go_wp2_with fail
      refine HSET.out.mono ?_
      rintro e w2 ⟨rfl, ha⟩
      have hbl : Below w.heap.size w w2 := HB.out.trans ((Below.refl w.heap.size wr).drew.trans (TAft.bel (show TX wr.drew w.heap.size t p c v x from HT.out) ha))
      obtain ⟨v2, h2, -, -⟩ := ha
      have HRES := hide (show On1 w t p c ll w2 (.int .i64 ((k : Int) + 1)) from ⟨k + 1, v2, _, rfl, hkl, h2, HX.out.set id at_, hbl⟩)
      clear h2 hbl
      go_wp2_with fail
      exact ⟨HRES.out, by simp only [intOf]; omega⟩
    · have hke : ll = k := by omega
      subst hke
      have HALL := hide (tall_any ht hx)
      clear ht hx hb
      go_wp2_with fail
      refine HALL.out.mono ?_
      rintro e w2 ⟨av, rfl, hr, hb⟩
      obtain ⟨A, cc, rfl⟩ := EK.row_slice hr
      obtain ⟨n, hn⟩ : ∃ n, n = x.length := ⟨_, rfl⟩
      rw [← hn] at hr ⊢
      have HN := hide (show n = x.length ∧ n ≤ 64 from ⟨hn, by rw [hn]; exact HX.out.few⟩)
      have HR := hide hr
      have HT2 := hide (HT.out.below hb)
      have HB2 := hide (HB.out.trans (hb.mono HB.out.size))
      have HAP := hide (show ∀ q, (Value.slice A n cc).ownBlock = some q → v.ownBlock ≠ some q ∧ q ≠ p ∧ q ≠ c from fun q hq => by
        have h1 := (EK.row_typed hr hq).1
        have h2 := HT.out.apart
        have h3 := HT.out.lt
        exact ⟨fun e => by have := (h2.2.2.2 q e).2.2.2.2; omega, by omega, by omega⟩)
      have hni : (n : Int) ≤ 64 := by have := HN.out.2; omega
      have HS2 := hide (show On2 w2 n w2 (.int .i64 0) from ⟨0, rfl, Nat.zero_le _, Below.refl _ _⟩)
      clear hr hb hn
      go_wp2_with fail
      go_loopw [6] (fun iv wx => On2 w2 n wx iv) (fun iv _ => n - (intOf iv).toNat)
      case atStart => exact HS2.out
      case round =>
        obtain ⟨i, rfl, hi, hbx⟩ := hrel
        have HBX := hide hbx
        rcases Nat.lt_or_ge i n with hin | hin
        · have hrx := EK.row_below HR.out hbx
          have hix : i < x.length := by have := HN.out.1; omega
          obtain ⟨r, cap, e1, hz1, hz2, -, -, hcell⟩ := EK.row_cells hrx hix
          rw [← HN.out.1] at e1 hz1
          injection e1 with e1a e1b e1c
          subst e1a e1c
          simp only [maxLen] at hz2
          have hii : (i : Int) < (n : Int) := by omega
          have HRES := hide (fun nq => show On2 w2 n (wr.drewN nq) (.int .i64 ((i : Int) + 1)) from ⟨i + 1, rfl, hin, below_drewN hbx nq⟩)
          rcases Nat.eq_zero_or_pos i with h0 | h0
          · subst h0
            clear hcell hrx hbx e1b
            go_wp2_with fail
            go_quiet (fail)
            go_wp2_with fail
            exact ⟨HRES.out _, by simp only [intOf]; omega⟩
          · obtain ⟨j, rfl⟩ : ∃ j, i = j + 1 := ⟨i - 1, by omega⟩
            have hjx : j < x.length := by omega
            obtain ⟨r', cap', e2, -, -, -, -, hcell2⟩ := EK.row_cells hrx hjx
            rw [← HN.out.1] at e2
            cases e2
            obtain ⟨b, hbe⟩ : ∃ b, b = tat x (j + 1) := ⟨_, rfl⟩
            obtain ⟨a, hae⟩ : ∃ a, a = tat x j := ⟨_, rfl⟩
            have hlt : Tlt a b := by rw [hae, hbe]; exact srt_at HX.out.srt (by omega) hix
            have b0 : wr.cell? ⟨r, (j + 1) * 2, none⟩ = some (.int .i64 b.id) := by rw [hbe, tat_eq hix]; exact hcell 0 (by decide)
            have b1 : wr.cell? ⟨r, (j + 1) * 2 + 1, none⟩ = some (.int .i64 b.at_) := by rw [hbe, tat_eq hix]; exact hcell 1 (by decide)
            have a0 : wr.cell? ⟨r, j * 2, none⟩ = some (.int .i64 a.id) := by rw [hae, tat_eq hjx]; exact hcell2 0 (by decide)
            have a1 : wr.cell? ⟨r, j * 2 + 1, none⟩ = some (.int .i64 a.at_) := by rw [hae, tat_eq hjx]; exact hcell2 1 (by decide)
            have g1 : decide (b.at_ < a.at_) = false := by unfold Tlt at hlt; simp; omega
            have hjn : (j : Int) < (n : Int) := by omega
            have hwj : IntKind.i64.wrap ((j : Int) + 1 - 1) = (j : Int) := by rw [IntKind.wrap_i64]; omega
            have hjj : (j : Int) + 1 - 1 = (j : Int) := by omega
            clear hcell hcell2 hrx hbx e1b hae hbe
            by_cases g2 : b.at_ = a.at_
            · have g2' : (b.at_ == a.at_) = true := by simpa using g2
              have g3 : decide (b.id ≤ a.id) = false := by unfold Tlt at hlt; simp; omega
              clear hlt g2
              go_wp2_with fail
              go_quiet (fail)
              go_wp2_with fail
              exact ⟨HRES.out _, by simp only [intOf]; omega⟩
            · have g2' : (b.at_ == a.at_) = false := by simpa using g2
              clear hlt g2
              go_wp2_with fail
              go_quiet (fail)
              go_wp2_with fail
              exact ⟨HRES.out _, by simp only [intOf]; omega⟩
        · have hie : n = i := by omega
          subst hie
          have HS3 := hide (show On3 w t p c n v (.slice A n cc) x wr (.int .i64 0) from ⟨0, v, rfl, Nat.zero_le _, HT2.out.below hbx, rfl, EK.row_base (EK.row_below HR.out hbx) HB.out.size, HB2.out.trans (hbx.mono HB2.out.size)⟩)
          clear hbx
          go_wp2_with fail
          go_loopw [7] (fun iv wx => On3 w t p c n v (.slice A n cc) x wx iv) (fun iv _ => n - (intOf iv).toNat)
          case atStart => exact HS3.out
          case round =>
            obtain ⟨i, v', rfl, hi, ht, hown, hrow, hb⟩ := hrel
            rcases Nat.lt_or_ge i n with hin | hin
            · have hix : i < x.length := by have := HN.out.1; omega
              obtain ⟨m, hm0, hmx, hdue, hat⟩ := due_first HX.out.srt hix
              obtain ⟨r, cap, e1, hz1, hz2, -, -, hcell⟩ := EK.row_cells hrow hix
              rw [← HN.out.1] at e1 hz1
              injection e1 with e1a e1b e1c
              subst e1a e1c
              simp only [maxLen] at hz2
              obtain ⟨y, hy⟩ : ∃ y, y = (tat x i).at_ := ⟨_, rfl⟩
              have q1 : wr.cell? ⟨r, i * 2 + 1, none⟩ = some (.int .i64 y) := by rw [hy, tat_eq hix]; exact hcell 1 (by decide)
              rw [← hy] at hdue hat
              have hyr := (HX.out.rng _ (tat_mem hix)).2
              rw [← hy] at hyr
              have htk : TOk (x.drop i) := ⟨HX.out.srt.sublist (List.drop_sublist _ _), ((List.drop_sublist _ _).map _).nodup HX.out.ids, by rw [List.length_drop]; have := HX.out.few; omega, fun t ht => HX.out.rng t (List.mem_of_mem_drop ht)⟩
              have hnone : tDue (x.drop i) (y - 1) = (x.drop i, []) := due_none (fun z hz => by
                rw [drop_at hix] at hz
                rcases List.mem_cons.1 hz with e | hz
                · rw [e, ← hy]
                  omega
                · have h1 := htk.srt
                  rw [drop_at hix, List.pairwise_cons] at h1
                  have := h1.1 z hz
                  unfold Tlt at this
                  omega)
              have HAP2 : Hid (∀ (wa wb : World) (va : Value), va.ownBlock = v.ownBlock → Fr (fun k => va.ownBlock = some k ∨ k = p ∨ k = c) wa wb → kT.row wa w.heap.size (.slice (some ⟨r, 0, none⟩) n cc) x → kT.row wb w.heap.size (.slice (some ⟨r, 0, none⟩) n cc) x) := hide (fun wa wb va e1 hf hr => EK.row_fr hr hf (fun k hk e => by
                have := HAP.out k hk
                rw [e1] at e
                rcases e with e | e | e
                · exact this.1 e
                · exact this.2.1 e
                · exact this.2.2 e))
              have HD1 := hide (tdue_any ht htk (y - 1))
              have HD2 := hide (fun (W : World) (va : Value) (h : TX W w.heap.size t p c va (x.drop i)) => tdue_any h htk y)
              have HDUE := hide hdue
              have HNONE := hide hnone
              have HATM := hide hat
              have HT3 := hide ht
              have HO3 := hide hown
              have HR3 := hide hrow
              have HB3 := hide hb
              have hii : (i : Int) < (n : Int) := by omega
              clear hdue hnone hat ht hown hrow hb hcell htk hy e1b
              go_wp2_with fail
              refine HD1.out.mono ?_
              rintro e w5 ⟨ov, rfl, hq⟩
              have hbl := hq.bel HT3.out
              unfold DueQ at hq
              rw [HNONE.out] at hq
              obtain ⟨v5, q5, o5, r5, f5⟩ := hq
              obtain ⟨A5, c5, rfl⟩ := EK.row_slice r5
              have hrow5 := HAP2.out _ _ _ HO3.out f5 HR3.out
              have hb5 := HB3.out.trans hbl
              have ho5 := o5.trans HO3.out
              clear hbl r5 f5 o5
              simp only [List.length_nil]
              go_wp2_with fail
              refine (HD2.out w5 v5 q5).mono ?_
              rintro e w6 ⟨ov, rfl, hq⟩
              have hbl := hq.bel q5
              unfold DueQ at hq
              rw [HDUE.out] at hq
              obtain ⟨v6, q6, o6, r6, f6⟩ := hq
              obtain ⟨A6, c6, e6⟩ := EK.row_slice r6
              have hml : (((x.drop i).take m).map (·.id)).length = m := by rw [List.length_map, List.length_take, List.length_drop]; omega
              rw [hml] at e6
              subst e6
              have HROW6 := hide (HAP2.out _ _ _ ho5 f6 hrow5)
              have HB6 := hide (hb5.trans hbl)
              have HO6 := hide (o6.trans ho5)
              have HQ6 := hide q6
              have HR6 := hide r6
              have HM := hide (show 0 < m ∧ i + m ≤ x.length ∧ m ≤ 64 from ⟨hm0, hmx, by have := HX.out.few; omega⟩)
              have hmi : (m : Int) ≤ 64 := by have := HX.out.few; omega
              have hm1 : (1 : Int) ≤ (m : Int) := by omega
              have hm2 : ((m : Int) == 0) = false := by
                have : (m : Int) ≠ 0 := by omega
                simpa using this
              have HS4 := hide (show On4 w6 i m w6 (.int .i64 (i : Int)) (.int .i64 0) from ⟨0, rfl, rfl, Nat.zero_le _, Below.refl _ _⟩)
              clear hbl hb5 ho5 o6 r6 f6 q6 hrow5 q5 hml hm0 hmx q1
              go_wp2_with fail
              go_loopw [7, 10] (fun iv kv wx => On4 w6 i m wx iv kv) (fun _ kv _ => m - (intOf kv).toNat)
              case atStart => exact HS4.out
              case round =>
                obtain ⟨k, rfl, rfl, hk, hbx⟩ := hrel
                rcases Nat.lt_or_ge k m with hkm | hkm
                · have hrx := EK.row_below HROW6.out hbx
                  have hox := EK.row_below HR6.out hbx
                  have hikx : i + k < x.length := by have := HM.out; omega
                  obtain ⟨r', cap', e2, hz3, -, -, -, hcell⟩ := EK.row_cells hrx hikx
                  rw [← HN.out.1] at e2
                  cases e2
                  have hkl' : k < (((x.drop i).take m).map (·.id)).length := by rw [List.length_map, List.length_take, List.length_drop]; omega
                  obtain ⟨ro, capo, e3, hz4, hz5, -, -, hcell2⟩ := EK.row_cells hox hkl'
                  injection e3 with e3a e3b e3c
                  subst e3a e3c
                  rw [← e3b] at hz4
                  simp only [maxLen] at hz5
                  obtain ⟨z, hz⟩ : ∃ z, z = tat x (i + k) := ⟨_, rfl⟩
                  have zz := HATM.out k hkm
                  rw [← hz] at zz
                  have b0 : wr.cell? ⟨r, (i + k) * 2, none⟩ = some (.int .i64 z.id) := by rw [hz, tat_eq hikx]; exact hcell 0 (by decide)
                  have b1 : wr.cell? ⟨r, (i + k) * 2 + 1, none⟩ = some (.int .i64 y) := by rw [← zz, hz, tat_eq hikx]; exact hcell 1 (by decide)
                  have c0 : wr.cell? ⟨ro, k, none⟩ = some (.int .i64 z.id) := by
                    have := hcell2 0 (by decide)
                    simp only [show kI.sz = 1 from rfl, Nat.mul_one, Nat.add_zero] at this
                    rw [this, hz, tat_eq hikx]
                    simp [kI]
                  obtain ⟨s, hs⟩ : ∃ s, s = i + k := ⟨_, rfl⟩
                  rw [← hs] at b0 b1 ⊢
                  have hsn : (s : Int) < (n : Int) := by have := HN.out.1; omega
                  have hsd : decide (n ≤ s) = false := by have := HN.out.1; simp; omega
                  have hki : (k : Int) < (m : Int) := by omega
                  have HRES := hide (fun nq => show On4 w6 i m (wr.drewN nq) (.int .i64 ((s : Int) + 1)) (.int .i64 ((k : Int) + 1)) from ⟨k + 1, rfl, by rw [hs]; simp only [Int.natCast_add]; rfl, hkm, below_drewN hbx nq⟩)
                  clear hcell hcell2 hrx hox hbx hz zz hkl' e3b hs
                  go_wp2_with fail
                  go_quiet (fail)
                  go_wp2_with fail
                  exact ⟨HRES.out _, by simp only [intOf]; omega⟩
                · have hke : m = k := by omega
                  subst hke
                  obtain ⟨s, hs⟩ : ∃ s, s = i + m := ⟨_, rfl⟩
                  have HRES := hide (show On3 w t p c n v (.slice (some ⟨r, 0, none⟩) n cc) x wr (.int .i64 (s : Int)) from ⟨s, v6, rfl, by have := HM.out; have := HN.out.1; omega, by rw [hs]; exact HQ6.out.below hbx, HO6.out, EK.row_below HROW6.out hbx, HB6.out.trans (hbx.mono HB6.out.size)⟩)
                  have hsi : i < s ∧ s ≤ n := by have := HM.out; have := HN.out.1; omega
                  rw [← hs]
                  clear hbx hs
                  go_wp2_with fail
                  exact ⟨HRES.out, by simp only [intOf]; omega⟩
            · have hie : n = i := by omega
              subst hie
              rw [HN.out.1, List.drop_length] at ht
              have HLEN := hide (tlen_any ht)
              have HB7 := hide hb
              clear ht hown hrow hb
              go_wp2_with fail
              refine HLEN.out.mono ?_
              rintro e w7 ⟨rfl, rfl⟩
              simp only [List.length_nil]
              go_wp2_with fail
              refine (AW.out _).mono ?_
              rintro e w8 ⟨rfl, hb⟩
              have HFIN := hide (HB7.out.trans (hb.mono HB7.out.size))
              clear hb
              go_wp2
              go_ret
              exact ⟨rfl, HFIN.out⟩
end Go.Proofs.Ythbhpojbdpgajaa
