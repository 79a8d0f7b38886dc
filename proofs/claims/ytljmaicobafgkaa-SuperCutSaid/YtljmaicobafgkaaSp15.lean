/- Chapter 10, super: the walk of SuperCut. -/
import Derived.Test.YtljmaicobafgkaaSp14
namespace Go.Proofs.Ytljmaicobafgkaa
open Go.RowKit

theorem newest_at {D : Dev} {g : Nat} {b : ByteArray} (h : newest D = some (g, b)) : opl D (plcN g) = some (g, b) := by
  have key : opl D 0 = some (g, b) ∨ opl D 4 = some (g, b) := by
    rw [newest_eq, pick_none (opl_gen D 0)] at h
    unfold pick at h
    split at h
    · exact .inr h
    · exact .inl h
  rcases key with e | e
  · have hp := (opn_some e).2.2
    have : plcN g = 0 := by unfold plc at hp; unfold plcN; omega
    rw [this]
    exact e
  · have hp := (opn_some e).2.2
    have : plcN g = 4 := by unfold plc at hp; unfold plcN; omega
    rw [this]
    exact e
theorem crN_other {D : Dev} (hd : Dok D) (keep tear : Int) {j : Nat} (hj : (j : Int) ∉ looseL D) : ∀ k, k ≤ (looseL D).length → (crN D keep tear k).1[j]? = D.now[j]?
  | 0, _ => rfl
  | k + 1, hk => by
    have ih := crN_other hd keep tear hj k (by omega)
    obtain ⟨m, x, h1, h2, h3, h4, h5, h6⟩ := loose_at hd (k := k) (by omega)
    have hne : m ≠ j := fun e => by
      subst e
      exact hj (List.mem_of_getElem? h1)
    rcases hkb : kb keep k with _ | _
    · rcases htn : (crN D keep tear k).2 with _ | _
      · rw [crN_torn hkb htn h2 h6 rfl rfl, List.getElem?_set_ne hne, ih]
      · rw [crN_plain hkb htn h2 h6, List.getElem?_set_ne hne, ih]
    · rw [crN_kept hkb, ih]
/-- What a crash behind a state that is not flushed leaves to be read. -/
theorem cut_newest {D : Dev} {n : Nat} {last : ByteArray} (h : LI D n last) (hn : 1 ≤ n) (hn2 : n ≤ 1000) (body : ByteArray) (hs : body.size ≤ 244) (keep tear : Int) :
    newest ((D.state body).crash keep tear) = some (n, last) ∨ ∃ g b, g ≠ n ∧ newest ((D.state body).crash keep tear) = some (g, b) ∧ Good (((D.state body).crash keep tear).read (plcN (n + 1)) 4) (plc (n + 1)) g b := by
  have hg : genO (newest D) = n := by rw [h.new, lastO_gen]
  have hnew : newest D = some (n, last) := by rw [h.new]; unfold lastO; rw [if_neg (by omega)]
  have hok := state_ok h.ok h.len body hs
  obtain ⟨E, hE⟩ : ∃ E, E = (D.state body).crash keep tear := ⟨_, rfl⟩
  rw [← hE]
  have hpl := plcN_or (n + 1)
  have hq := plcN_or n
  have hpq : plcN n ≠ plcN (n + 1) := by unfold plcN; omega
  have hother : opl E (plcN n) = some (n, last) := by
    rw [← newest_at hnew]
    refine opl_same (fun j h1 h2 => ?_)
    have hjn : ¬ (plcN (genO (newest D) + 1) ≤ j ∧ j < plcN (genO (newest D) + 1) + 4) := by rw [hg]; omega
    have hjl : (j : Int) ∉ looseL (D.state body) := fun hm => by
      rw [looseL_mem hok] at hm
      unfold Dev.state at hm
      rw [puts_sure D _ _ 4 (by rw [h.len]; rw [hg]; omega), if_neg (by omega), h.sure] at hm
      cases hm
    rw [hE]
    show (crN (D.state body) keep tear (looseL (D.state body)).length).1[j]? = _
    rw [crN_other hok keep tear hjl _ (Nat.le_refl _), state_now h.len body j hjn]
  have hz : ∀ g b, opl E (plcN (n + 1)) = some (g, b) → g ≠ n := fun g b e e2 => by
    subst e2
    have := (opn_some e).2.2
    unfold plc at this
    unfold plcN at hpq this
    omega
  have hboth : newest E = some (n, last) ∨ (∃ g b, newest E = some (g, b) ∧ opl E (plcN (n + 1)) = some (g, b)) := by
    rcases e : opl E (plcN (n + 1)) with _ | ⟨g, b⟩
    · left
      rcases hq with e1 | e1
      · have e2 : plcN (n + 1) = 4 := by omega
        rw [e1] at hother
        rw [e2] at e
        exact newest_left hother (by rw [e]; show 0 < n; omega)
      · have e2 : plcN (n + 1) = 0 := by omega
        rw [e1] at hother
        rw [e2] at e
        exact newest_right hother (by rw [e]; show 0 < n; omega)
    · have hne := hz g b e
      rcases (by omega : g < n ∨ n < g) with hlt | hlt
      · left
        rcases hq with e1 | e1
        · have e2 : plcN (n + 1) = 4 := by omega
          rw [e1] at hother
          rw [e2] at e
          exact newest_left hother (by rw [e]; exact hlt)
        · have e2 : plcN (n + 1) = 0 := by omega
          rw [e1] at hother
          rw [e2] at e
          exact newest_right hother (by rw [e]; exact hlt)
      · right
        refine ⟨g, b, ?_, rfl⟩
        rcases hq with e1 | e1
        · have e2 : plcN (n + 1) = 4 := by omega
          rw [e1] at hother
          rw [e2] at e
          exact newest_right e (by rw [hother]; exact hlt)
        · have e2 : plcN (n + 1) = 0 := by omega
          rw [e1] at hother
          rw [e2] at e
          exact newest_left e (by rw [hother]; exact hlt)
  rcases hboth with e | ⟨g, b, e1, e2⟩
  · exact .inl e
  · exact .inr ⟨g, b, hz g b e2, e1, opn_to_good e2⟩
def cutB (kd at_ : Int) (tx : ByteArray) (keep : Int) : Obj := .cells #[.int .i64 kd, .int .i64 at_, .string tx, .int .u64 keep] 162
set_option maxHeartbeats 8000000 in
set_option maxRecDepth 100000 in
theorem walk_superCut (v : Value) (l : List ByteArray) (body : ByteArray) (kd at_ : Int) (tx : ByteArray) (keep : Int) (w : World) (hv : TxtArg w v l) (_hz : ∀ x ∈ l, x.size ≤ maxLen) (_hb : body.size ≤ 140737488351232) (_h0 : (Lit.int .i64 kd).wf = true) (_h1 : (Lit.int .i64 at_).wf = true) (_h2 : tx.size ≤ maxLen) (_h3 : (Lit.int .u64 keep).wf = true) :
    Calls Try.prog 24 #[v, .string body, .agg #[.int .i64 kd, .int .i64 at_, .string tx, .int .u64 keep]] w fun e w' => e = .returned (.bool true) ∧ Below w.heap.size w w' := by
  obtain ⟨A, cap, rfl⟩ := hv.slice
  have hlm := hv.len
  simp only [maxLen] at hlm
  obtain ⟨wb, hwb⟩ : ∃ wb, wb = w.alloc (.cells #[.int .i64 kd, .int .i64 at_, .string tx, .int .u64 keep] 162) := ⟨_, rfl⟩
  have hbb : Below w.heap.size w wb := by rw [hwb]; exact (Below.refl _ _).alloc (Nat.le_refl _) _
  have HBOX := hide (show wb.heap[w.heap.size]? = some (.cells #[.int .i64 kd, .int .i64 at_, .string tx, .int .u64 keep] 162 (0, 0)) by rw [hwb]; exact obj_new _ _)
  have HWB := hide hwb
  have HBB := hide hbb
  have HV := hide (hv.below hbb)
  obtain ⟨ll, hll⟩ : ∃ ll, ll = l.length := ⟨_, rfl⟩
  rw [← hll] at hlm HV ⊢
  have HLL := hide hll
  clear hv hll hbb hwb
  have AWAKE := hide awake10
  rcases Nat.eq_zero_or_pos ll with h0 | h0
  · subst h0
    go_enter Try.func24, Try.ntmps24
    go_wp2_with fail
    rw [← HWB.out]
    refine (AWAKE.out _).mono ?_
    rintro e w1 ⟨rfl, hb⟩
    have HB := hide (HBB.out.trans (hb.mono HBB.out.size))
    clear hb
    go_wp2
    go_ret
    exact ⟨rfl, HB.out⟩
  rcases Nat.lt_or_ge 10 ll with hbig | hbig
  · have hbig' : (10 : Int) < (ll : Int) := by omega
    have hz0 : ((ll : Int) == 0) = false := by simp; omega
    go_enter Try.func24, Try.ntmps24
    go_wp2_with fail
    rw [← HWB.out]
    refine (AWAKE.out _).mono ?_
    rintro e w1 ⟨rfl, hb⟩
    have HB := hide (HBB.out.trans (hb.mono HBB.out.size))
    clear hb
    go_wp2
    go_ret
    exact ⟨rfl, HB.out⟩
  have hbig' : ¬ (10 : Int) < (ll : Int) := by omega
  have hz0 : ((ll : Int) == 0) = false := by simp; omega
  go_enter Try.func24, Try.ntmps24
  go_wp2_with fail
  rw [← HWB.out]
  refine (dnew_any 8 _).mono ?_
  rintro e w1 ⟨g, c, r, rfl, hdv, hb1, hg, hc, hr⟩
  have HS := hide (show SlS wb g c r l w1 (.string ⟨#[]⟩) (.int .i64 0) (.int .i64 0) from ⟨0, 0, newD 8, ⟨#[]⟩, rfl, Nat.zero_le _, rfl, rfl, Nat.le_refl _, LI.start, hdv, hb1⟩)
  have HBL := hide (show wb.heap.size ≤ g ∧ wb.heap.size ≤ c ∧ wb.heap.size ≤ r from ⟨hg, hc, hr⟩)
  clear hdv hb1 hg hc hr
  go_wp2_with fail
  go_loopw [8, 9, 10] (fun sv nv iv wr => SlS wb g c r l wr sv nv iv) (fun _ _ iv _ => ll - (intOf iv).toNat)
  case atStart => exact HS.out
  case round =>
    obtain ⟨k, n, D, want, rfl, hk, rfl, rfl, hnk, hli, hdv, hb⟩ := hrel
    have HB := hide hb
    rw [← HLL.out] at hk
    rcases Nat.lt_or_ge k ll with hkl | hkl
    · obtain ⟨a, rfl, hc1, hc2, hcell⟩ := HV.out.cell (k := k) (by have := HLL.out; omega)
      simp only [maxLen] at hc2
      obtain ⟨x, hx⟩ : ∃ x, x = l[k]'(by have := HLL.out; omega) := ⟨_, rfl⟩
      rw [← hx] at hcell
      have HCELL := hide hcell
      have q0 := hcell wr hb
      have hcapi : ll ≤ cap := by have := HLL.out; omega
      have hkli : (k : Int) < (ll : Int) := by omega
      have hn30 : n ≤ 30 := by omega
      rcases Nat.lt_or_ge 244 x.size with hxs | hxs
      · have HW := hide (swrite_size g x wr hxs)
        have HRES := hide (show SlS wb g c r l wr (.string want) (.int .i64 (n : Int)) (.int .i64 ((k + 1 : Nat) : Int)) from ⟨k + 1, n, D, want, rfl, by have := HLL.out; omega, rfl, rfl, by omega, hli, hdv, hb⟩)
        clear hcell hb hx hli hdv hxs hc1
        go_wp2_with fail
        refine HW.out.mono ?_
        rintro e w2 ⟨rfl, rfl⟩
        go_wp2
        exact ⟨HRES.out, by simp only [intOf]; omega⟩
      · have HW := hide (swrite_any hdv hli.ok hli.lost hli.len x hxs (by rw [hli.new, lastO_gen]; omega))
        have hli2 := hli.next x hxs (by omega)
        obtain ⟨m, hm⟩ : ∃ m, m = n + 1 := ⟨_, rfl⟩
        rw [← hm] at hli2
        have hmi : (n : Int) + 1 = (m : Int) := by omega
        have hmk : m ≤ k + 1 := by omega
        have hm31 : (m : Int) ≤ 31 := by omega
        have HLI := hide hli2
        clear hcell hb hx hli hli2 hdv hxs hc1 hm
        go_wp2_with fail
        refine HW.out.mono ?_
        rintro e w2 ⟨rfl, hdv2, hf2⟩
        have hb2 : Below wb.heap.size wb w2 := HB.out.trans (hf2.below _ HB.out.size (fun j hj e => by have := HBL.out; omega))
        have q1 := HCELL.out w2 hb2
        have HRES := hide (show SlS wb g c r l w2 (.string x) (.int .i64 (m : Int)) (.int .i64 ((k + 1 : Nat) : Int)) from ⟨k + 1, m, D.next x, x, rfl, by have := HLL.out; omega, rfl, rfl, by omega, HLI.out, hdv2, hb2⟩)
        clear hdv2 hf2 hb2
        go_wp2
        exact ⟨HRES.out, by simp only [intOf]; omega⟩
    · have hke : k = ll := by omega
      subst hke
      obtain ⟨m, hm⟩ : ∃ m, m = n + 1 := ⟨_, rfl⟩
      have hmi : (n : Int) + 1 = (m : Int) := by omega
      have hm31 : (m : Int) ≤ 31 := by omega
      have hn30 : (n : Int) ≤ 30 := by omega
      have HLI := hide hli
      have HDV := hide hdv
      have HM := hide hm
      have hm1 : 1 ≤ m := by omega
      have hm2 : m ≤ 31 := by omega
      clear hli hdv hb hm
      rcases Nat.lt_or_ge 244 body.size with hbs | hbs
      · have HP := hide (pack_size body (m : Int) wr (by omega) (by omega) hbs)
        clear hbs
        go_wp2_with fail
        refine HP.out.mono ?_
        rintro e w2 ⟨rfl, rfl⟩
        go_wp2_with fail
        refine (AWAKE.out _).mono ?_
        rintro e w3 ⟨rfl, hb3⟩
        have HB3 := hide (HBB.out.trans ((HB.out.trans (hb3.mono HB.out.size)).mono HBB.out.size))
        clear hb3
        go_wp2
        go_ret
        exact ⟨rfl, HB3.out⟩
      have HP := hide (pack_ok body (m : Int) wr (by omega) (by omega) hbs)
      have HPZ := hide (pack_len body (m : Int) hbs)
      obtain ⟨p, hp⟩ : ∃ p, p = packS body (m : Int) := ⟨_, rfl⟩
      rw [← hp] at HP HPZ
      have HPE := hide hp
      have HBS := hide hbs
      clear hp hbs
      rcases Nat.eq_zero_or_pos n with hn0 | hn0
      · have hn0e : ((n : Int) == 0) = true := by rw [hn0]; rfl
        clear hn0
        go_wp2_with fail
        refine HP.out.mono ?_
        rintro e w2 ⟨rfl, hb2⟩
        have HB2 := hide (HB.out.trans (hb2.mono HB.out.size))
        clear hb2
        go_wp2_with fail
        refine (AWAKE.out _).mono ?_
        rintro e w3 ⟨rfl, hb3⟩
        have HB3 := hide (HBB.out.trans ((HB2.out.trans (hb3.mono HB2.out.size)).mono HBB.out.size))
        clear hb3
        go_wp2
        go_ret
        exact ⟨rfl, HB3.out⟩
      have hn0i : ((n : Int) == 0) = false := by simp; omega
      obtain ⟨pl, hpl⟩ : ∃ pl, pl = plcN m := ⟨_, rfl⟩
      have hpli : (m : Int) % 2 * 4 = (pl : Int) := by rw [hpl]; unfold plcN; omega
      have hplb : (pl : Int) ≤ 4 ∧ 0 ≤ (pl : Int) := by rw [hpl]; unfold plcN; omega
      have hpl4 : pl ≤ 4 := by omega
      have HPL := hide hpl
      have HST := hide (show D.state body = D.puts pl p 4 by unfold Dev.state; rw [HLI.out.new, lastO_gen, ← HM.out, ← hpl, ← HPE.out])
      obtain ⟨E, hE⟩ : ∃ E, E = (D.state body).crash keep at_ := ⟨_, rfl⟩
      have HE := hide hE
      have HEO := hide (show Dok E by rw [hE]; exact (state_ok HLI.out.ok HLI.out.len body HBS.out).crash keep at_)
      have HEL := hide (show E.now.length = 8 by rw [hE, crash_len]; unfold Dev.state; rw [puts_len]; exact HLI.out.len)
      have HET := hide (show E.lost = false by rw [hE]; show (D.state body).lost = false; unfold Dev.state; rw [puts_lost]; exact HLI.out.lost)
      have hcn := cut_newest HLI.out hn0 (by omega) body HBS.out keep at_
      rw [← hE, ← HM.out, ← hpl] at hcn
      clear hpl hE
      rcases hcn with hcn | ⟨g2, b2, hgn, hcn, hgood⟩
      · have HCN := hide hcn
        clear hcn
        go_wp2_with fail
        refine HP.out.mono ?_
        rintro e w2 ⟨rfl, hb2⟩
        have hv2 := HDV.out.below hb2
        have hB2 := HB.out.trans (hb2.mono HB.out.size)
        clear hb2
        go_wp2_with fail
        refine (dwrite_ok hv2 HLI.out.lost pl 4 p HPZ.out (by decide) (by omega) (by decide) HLI.out.len).mono ?_
        rintro e w3 ⟨rfl, hv3, hf3⟩
        rw [← HST.out] at hv3
        have hB3 := hB2.trans (hf3.below _ hB2.size (fun j hj e => by have := HBL.out; omega))
        have zb := obj_below HBOX.out hB3
        have zb1 := obj_cell zb 1
        have zb3 := obj_cell zb 3
        simp only [List.getElem?_toArray, List.getElem?_cons_zero, List.getElem?_cons_succ] at zb1 zb3
        clear hv2 hf3 hB2 zb
        go_wp2_with fail
        refine (crash_any hv3 (state_ok HLI.out.ok HLI.out.len body HBS.out) (by decide) (by unfold Dev.state; rw [puts_len]; exact HLI.out.len) keep at_).mono ?_
        rintro e w5 ⟨rfl, hv5, hf5⟩
        rw [← HE.out] at hv5
        have HB5 := hide (hB3.trans (hf5.below _ hB3.size (fun j hj e => by have := HBL.out; omega)))
        clear hv3 hf5 hB3 zb1 zb3
        have HR := hide (sread_any hv5 HEO.out HET.out HEL.out)
        rw [HCN.out] at HR
        have HR2 : Hid (Calls Try.prog 98 #[.pointer (some ⟨g, 0, none⟩)] w5 fun e w' => e = .returned (.tuple #[.string want, .int .i64 (n : Int), .int .i64 0]) ∧ Below w5.heap.size w5 w') := HR
        clear hv5
        go_wp2_with fail
        refine HR2.out.mono ?_
        rintro e w6 ⟨rfl, hb6⟩
        have HB6 := hide (HB5.out.trans (hb6.mono HB5.out.size))
        clear hb6
        go_wp2_with fail
        refine (AWAKE.out _).mono ?_
        rintro e w7 ⟨rfl, hb7⟩
        have HB7 := hide (HBB.out.trans ((HB6.out.trans (hb7.mono HB6.out.size)).mono HBB.out.size))
        clear hb7
        go_wp2
        go_ret
        exact ⟨rfl, HB7.out⟩
      · have HCN := hide hcn
        have HG := hide hgood
        have hgni : ((g2 : Int) == (n : Int)) = false := by simp; omega
        have hnowp : (E.read pl 4 = p → b2 = body ∧ g2 = m) := fun e => by
          have h1 := opn_good hgood
          have h2 : opn p (plc m) = some (m, body) := opn_good ⟨hm1, by omega, HBS.out, rfl, HPE.out⟩
          rw [e, h2] at h1
          simp only [Option.some.injEq, Prod.mk.injEq] at h1
          exact ⟨h1.2.symm, h1.1.symm⟩
        have HPP := hide (show plc m = (pl : Int) by rw [HPL.out]; rfl)
        clear hcn hgood
        by_cases hnp : E.read pl 4 = p
        · obtain ⟨eb, eg⟩ := hnowp hnp
          have eb2 := eb.symm
          have eg2 := eg.symm
          subst eb2 eg2
          have HNP := hide hnp
          clear hnp hnowp
          go_wp2_with fail
          refine HP.out.mono ?_
          rintro e w2 ⟨rfl, hb2⟩
          have hv2 := HDV.out.below hb2
          have hB2 := HB.out.trans (hb2.mono HB.out.size)
          clear hb2
          go_wp2_with fail
          refine (dwrite_ok hv2 HLI.out.lost pl 4 p HPZ.out (by decide) (by omega) (by decide) HLI.out.len).mono ?_
          rintro e w3 ⟨rfl, hv3, hf3⟩
          rw [← HST.out] at hv3
          have hB3 := hB2.trans (hf3.below _ hB2.size (fun j hj e => by have := HBL.out; omega))
          have zb := obj_below HBOX.out hB3
          have zb1 := obj_cell zb 1
          have zb3 := obj_cell zb 3
          simp only [List.getElem?_toArray, List.getElem?_cons_zero, List.getElem?_cons_succ] at zb1 zb3
          clear hv2 hf3 hB2 zb
          go_wp2_with fail
          refine (crash_any hv3 (state_ok HLI.out.ok HLI.out.len body HBS.out) (by decide) (by unfold Dev.state; rw [puts_len]; exact HLI.out.len) keep at_).mono ?_
          rintro e w5 ⟨rfl, hv5, hf5⟩
          rw [← HE.out] at hv5
          have HB5 := hide (hB3.trans (hf5.below _ hB3.size (fun j hj e => by have := HBL.out; omega)))
          clear hv3 hf5 hB3 zb1 zb3
          have HR := hide (sread_any hv5 HEO.out HET.out HEL.out)
          rw [HCN.out] at HR
          have HR2 : Hid (Calls Try.prog 98 #[.pointer (some ⟨g, 0, none⟩)] w5 fun e w' => e = .returned (.tuple #[.string body, .int .i64 (m : Int), .int .i64 0]) ∧ Below w5.heap.size w5 w') := HR
          have HV5 := hide hv5
          clear hv5
          go_wp2_with fail
          refine HR2.out.mono ?_
          rintro e w6 ⟨rfl, hb6⟩
          have HV6 := hide (HV5.out.below hb6)
          have HB6 := hide (HB5.out.trans (hb6.mono HB5.out.size))
          clear hb6
          have HRD := hide (dread_ok HV6.out HEO.out HET.out pl 4 (by decide) (by omega) (by decide) HEL.out)
          rw [HNP.out] at HRD
          go_wp2_with fail
          refine HRD.out.mono ?_
          rintro e w7 ⟨rfl, hb7⟩
          have HB7 := hide (HB6.out.trans (hb7.mono HB6.out.size))
          clear hb7
          have HRG := hide (right_good HG.out w7)
          rw [HPP.out] at HRG
          rw [HNP.out] at HRG
          go_wp2_with fail
          refine HRG.out.mono ?_
          rintro e w8 ⟨rfl, hb8⟩
          have HB8 := hide (HB7.out.trans (hb8.mono HB7.out.size))
          clear hb8
          go_wp2_with fail
          refine (AWAKE.out _).mono ?_
          rintro e w9 ⟨rfl, hb9⟩
          have HB9 := hide (HBB.out.trans ((HB8.out.trans (hb9.mono HB8.out.size)).mono HBB.out.size))
          clear hb9
          go_wp2
          go_ret
          exact ⟨rfl, HB9.out⟩
        · have HNP := hide hnp
          have hne : ((E.read pl 4).toList == p.toList) = false := by
            rw [beq_eq_false_iff_ne]
            intro e
            apply hnp
            rw [ByteArray.toList_eq, ByteArray.toList_eq] at e
            exact ByteArray.ext (Array.toList_inj.1 e)
          clear hnp hnowp
          obtain ⟨nw, hnw⟩ : ∃ nw, nw = E.read pl 4 := ⟨_, rfl⟩
          rw [← hnw] at hne
          have HNW := hide hnw
          clear hnw
          go_wp2_with fail
          refine HP.out.mono ?_
          rintro e w2 ⟨rfl, hb2⟩
          have hv2 := HDV.out.below hb2
          have hB2 := HB.out.trans (hb2.mono HB.out.size)
          clear hb2
          go_wp2_with fail
          refine (dwrite_ok hv2 HLI.out.lost pl 4 p HPZ.out (by decide) (by omega) (by decide) HLI.out.len).mono ?_
          rintro e w3 ⟨rfl, hv3, hf3⟩
          rw [← HST.out] at hv3
          have hB3 := hB2.trans (hf3.below _ hB2.size (fun j hj e => by have := HBL.out; omega))
          have zb := obj_below HBOX.out hB3
          have zb1 := obj_cell zb 1
          have zb3 := obj_cell zb 3
          simp only [List.getElem?_toArray, List.getElem?_cons_zero, List.getElem?_cons_succ] at zb1 zb3
          clear hv2 hf3 hB2 zb
          go_wp2_with fail
          refine (crash_any hv3 (state_ok HLI.out.ok HLI.out.len body HBS.out) (by decide) (by unfold Dev.state; rw [puts_len]; exact HLI.out.len) keep at_).mono ?_
          rintro e w5 ⟨rfl, hv5, hf5⟩
          rw [← HE.out] at hv5
          have HB5 := hide (hB3.trans (hf5.below _ hB3.size (fun j hj e => by have := HBL.out; omega)))
          clear hv3 hf5 hB3 zb1 zb3
          have HR := hide (sread_any hv5 HEO.out HET.out HEL.out)
          rw [HCN.out] at HR
          have HR2 : Hid (Calls Try.prog 98 #[.pointer (some ⟨g, 0, none⟩)] w5 fun e w' => e = .returned (.tuple #[.string b2, .int .i64 (g2 : Int), .int .i64 0]) ∧ Below w5.heap.size w5 w') := HR
          have HV5 := hide hv5
          clear hv5
          go_wp2_with fail
          refine HR2.out.mono ?_
          rintro e w6 ⟨rfl, hb6⟩
          have HV6 := hide (HV5.out.below hb6)
          have HB6 := hide (HB5.out.trans (hb6.mono HB5.out.size))
          clear hb6
          have HRD := hide (dread_ok HV6.out HEO.out HET.out pl 4 (by decide) (by omega) (by decide) HEL.out)
          rw [← HNW.out] at HRD
          go_wp2_with fail
          refine HRD.out.mono ?_
          rintro e w7 ⟨rfl, hb7⟩
          have HB7 := hide (HB6.out.trans (hb7.mono HB6.out.size))
          clear hb7
          have HRG := hide (right_good HG.out w7)
          rw [HPP.out] at HRG
          rw [← HNW.out] at HRG
          go_wp2_with fail
          refine HRG.out.mono ?_
          rintro e w8 ⟨rfl, hb8⟩
          have HB8 := hide (HB7.out.trans (hb8.mono HB7.out.size))
          clear hb8
          go_wp2_with fail
          refine (AWAKE.out _).mono ?_
          rintro e w9 ⟨rfl, hb9⟩
          have HB9 := hide (HBB.out.trans ((HB8.out.trans (hb9.mono HB8.out.size)).mono HBB.out.size))
          clear hb9
          go_wp2
          go_ret
          exact ⟨rfl, HB9.out⟩
end Go.Proofs.Ytljmaicobafgkaa
