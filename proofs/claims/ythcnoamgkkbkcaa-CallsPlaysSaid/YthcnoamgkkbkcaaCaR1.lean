/- Chapter 14, calls: the reference: New, moment, find, first, Open, State; messages one by one. -/
import Derived.Test.YthcnoamgkkbkcaaCaRp
import Derived.Test.YthcnoamgkkbkcaaCaO
namespace Go.Proofs.Ythcnoamgkkbkcaa
open Go.RowKit

theorem rmoment_ok {now : Int} (h : ¬ badN now) (w : World) : Calls Try.prog 45 #[.int .i64 now] w fun e w' => e = .returned (.bool true) ∧ w = w' := by
  have h1 : 0 ≤ now := by unfold badN at h; omega
  have h2 : now ≤ 1099511626776 := by unfold badN at h; omega
  clear h
  go_enter Try.func45, Try.ntmps45
  go_wp2
  go_ret
  exact ⟨rfl, rfl⟩
theorem rmoment_no {now : Int} (h : badN now) (w : World) : Calls Try.prog 45 #[.int .i64 now] w fun e w' => e = .returned (.bool false) ∧ w = w' := by
  by_cases h1 : 0 ≤ now
  · have h2 : ¬ now ≤ 1099511626776 := by unfold badN at h; omega
    clear h
    go_enter Try.func45, Try.ntmps45
    go_wp2
    go_ret
    exact ⟨rfl, rfl⟩
  · clear h
    go_enter Try.func45, Try.ntmps45
    go_wp2
    go_ret
    exact ⟨rfl, rfl⟩
/-- The reference's calls, as a value. -/
def rC (S : CS) (u : Value) : Array Value := #[.int .i64 S.me, .int .i64 S.next, u]
def RC (w : World) (B : Nat) (S : CS) (v : Value) : Prop := ∃ u, v = .agg (rC S u) ∧ kK.row w B u S.L
theorem RC.below {w w' : World} {B : Nat} {S : CS} {v : Value} (h : RC w B S v) (hb : Below w.heap.size w w') : RC w' B S v := by
  obtain ⟨u, e, h1⟩ := h
  exact ⟨u, e, EK.row_below h1 hb⟩
/-- One result, a struct in memory. -/
theorem res_c {P : Program} {fn : Func} {p : Tmp} {ty : TypeId} (h : fn.results = #[.cell p ty]) (tmps : Array Value) (w : World) (g : Nat) (t : TypeId) (cs : Array Value) (fr : Nat × Nat) (d : TypeDesc)
    (hp : tmps.getD p undef = .pointer (some ⟨g, 0, none⟩)) (hg : w.heap[g]? = some (.cells cs t fr)) (hu : P.underlying ty = some d) (hd : (match d with | .struct _ | .array _ _ => true | _ => false) = true)
    (hi : (P.info? ty).map (·.size) = some cs.size) : (results fn tmps).run P w = .ok (.agg cs) w := by
  have hp' : tmps[p]?.getD undef = .pointer (some ⟨g, 0, none⟩) := by simpa using hp
  simp [results, h, hp', asAddr, run_loadVar_row w g t ty cs fr d hg hu hd hi]
/-- Three results, the first one a struct in memory. -/
theorem res_ctt {P : Program} {fn : Func} {p u q : Tmp} {ty : TypeId} (h : fn.results = #[.cell p ty, .tmp u, .tmp q]) (tmps : Array Value) (w : World) (g : Nat) (t : TypeId) (cs : Array Value) (fr : Nat × Nat) (d : TypeDesc)
    (hp : tmps.getD p undef = .pointer (some ⟨g, 0, none⟩)) (hg : w.heap[g]? = some (.cells cs t fr)) (hu : P.underlying ty = some d) (hd : (match d with | .struct _ | .array _ _ => true | _ => false) = true)
    (hi : (P.info? ty).map (·.size) = some cs.size) : (results fn tmps).run P w = .ok (.tuple #[.agg cs, tmps.getD u undef, tmps.getD q undef]) w := by
  have hp' : tmps[p]?.getD undef = .pointer (some ⟨g, 0, none⟩) := by simpa using hp
  simp [results, h, hp', asAddr, run_loadVar_row w g t ty cs fr d hg hu hd hi]
theorem obj_new' (w : World) (o o' : Obj) : ((w.alloc o).alloc o').heap[w.heap.size + 1]? = some o' := by
  have := obj_new (w.alloc o) o'
  rwa [World.size_alloc] at this
set_option maxHeartbeats 4000000 in
set_option maxRecDepth 100000 in
theorem rnew_any (me first : Int) (w : World) : Calls Try.prog 15 #[.int .i64 me, .int .i64 first] w fun e w' => e = .returned (.agg (rC (newC me first) (.slice none 0 0))) ∧ Below w.heap.size w w' := by
  obtain ⟨M1, hM1⟩ : ∃ M, M = max me 0 := ⟨_, rfl⟩
  obtain ⟨M2, hM2⟩ : ∃ M, M = min M1 63 := ⟨_, rfl⟩
  obtain ⟨F1, hF1⟩ : ∃ M, M = max first 0 := ⟨_, rfl⟩
  obtain ⟨F2, hF2⟩ : ∃ M, M = min F1 1073741824 := ⟨_, rfl⟩
  have g1 := fun ts t => run_mx ts t me 0 M1 hM1
  have g2 := fun ts t => run_mn ts t M1 63 M2 hM2
  have g3 := fun ts t => run_mx ts t first 0 F1 hF1
  have g4 := fun ts t => run_mn ts t F1 1073741824 F2 hF2
  have HM := hide (show newC me first = ⟨M2, F2, []⟩ from by unfold newC; rw [hM2, hM1, hF2, hF1])
  clear hM1 hM2 hF1 hF2
  have HB := hide ((Below.refl w.heap.size w).alloc (Nat.le_refl _) (.cells #[.int .i64 M2, .int .i64 F2, .slice none 0 0] 29))
  rw [HM.out]
  go_enter Try.func15, Try.ntmps15
  go_wp2
  exact bodyPost_ret (res_c rfl _ _ w.heap.size 29 _ (0, 0) _ rfl (obj_new _ _) Try.underlying29 rfl info29) rfl ⟨rfl, HB.out⟩
/-- The place of a number. -/
def FindIs (L : List Ck) (id r : Int) : Prop := (r = -1 ∧ ∀ k ∈ L, k.id ≠ id) ∨ ∃ (j : Nat) (h : j < L.length), r = (j : Int) ∧ L[j].id = id
def FiS (W : World) (L : List Ck) (id : Int) (n : Nat) (wr : World) (iv : Value) : Prop :=
  ∃ k : Nat, iv = .int .i64 (k : Int) ∧ k ≤ n ∧ (∀ (i : Nat) (h : i < L.length), i < k → L[i].id ≠ id) ∧ Below W.heap.size W wr
set_option maxHeartbeats 4000000 in
set_option maxRecDepth 100000 in
theorem rfind_any {w : World} {B : Nat} {u : Value} {L : List Ck} (hu : kK.row w B u L) (hl : L.length ≤ 65536) (me nx id : Int) :
    Calls Try.prog 50 #[.agg #[.int .i64 me, .int .i64 nx, u], .int .i64 id] w fun e w' => ∃ r, e = .returned (.int .i64 r) ∧ FindIs L id r ∧ Below w.heap.size w w' := by
  obtain ⟨A, c, rfl⟩ := EK.row_slice hu
  obtain ⟨n, hn⟩ : ∃ n, n = L.length := ⟨_, rfl⟩
  rw [← hn] at hu ⊢
  have HN := hide (show n = L.length ∧ n ≤ 65536 from ⟨hn, by omega⟩)
  have hni : (n : Int) ≤ 65536 := by omega
  obtain ⟨W, hW⟩ : ∃ W, W = w.alloc (.cells #[.int .i64 me, .int .i64 nx, .slice A n c] 29) := ⟨_, rfl⟩
  have hal : Below w.heap.size w W := by rw [hW]; exact (Below.refl _ _).alloc (Nat.le_refl _) _
  have HB := hide hal
  have HU := hide (EK.row_below hu hal)
  have HO := hide (show W.heap[w.heap.size]? = some (.cells #[.int .i64 me, .int .i64 nx, .slice A n c] 29 (0, 0)) from by rw [hW]; exact obj_new _ _)
  have HS := hide (show FiS W L id n W (.int .i64 0) from ⟨0, rfl, Nat.zero_le _, (fun i h hi => absurd hi (Nat.not_lt_zero _)), Below.refl _ _⟩)
  rw [hW] at HS
  have HW := hide hW
  clear hu hn hl hal hW
  go_enter Try.func50, Try.ntmps50
  go_wp2_with fail
  go_loopw [5] (fun iv wr => FiS W L id n wr iv) (fun iv _ => n - (intOf iv).toNat)
  case atStart => exact HW.out ▸ HS.out
  case round =>
    obtain ⟨k, rfl, hk, hq, hb⟩ := hrel
    have hu := EK.row_below HU.out hb
    have HBR := hide hb
    have HQ := hide hq
    have z2 := obj_cell (obj_below HO.out hb) 2
    simp only [List.getElem?_toArray, List.getElem?_cons_zero, List.getElem?_cons_succ] at z2
    rcases Nat.lt_or_ge k n with hkl | hkl
    · have hkl' : k < L.length := by have := HN.out.1; omega
      obtain ⟨r, cap, e1, hz1, hz2, -, -, hcell⟩ := EK.row_cells hu hkl'
      rw [← HN.out.1] at e1 hz1
      injection e1 with e1a e1b e1c
      subst e1a e1c
      simp only [maxLen] at hz2
      obtain ⟨x, hx⟩ : ∃ x, x = L[k] := ⟨_, rfl⟩
      have q0 := hcell 0 (by decide)
      rw [← hx] at q0
      simp only [kK, List.getElem?_cons_zero, Nat.add_zero] at q0
      have hki : (k : Int) < (n : Int) := by omega
      have HX := hide (show ∃ h : k < L.length, L[k] = x from ⟨hkl', hx.symm⟩)
      clear hcell hu hx hb hq e1b
      obtain ⟨xi, hxi⟩ : ∃ y, y = x.id := ⟨_, rfl⟩
      rw [← hxi] at q0
      have HXI := hide hxi
      clear hxi
      by_cases hid : xi = id
      · subst hid
        go_wp2
        go_ret
        exact ⟨_, rfl, .inr ⟨k, HX.out.1, rfl, by obtain ⟨h1, h2⟩ := HX.out; rw [h2, HXI.out]⟩, HB.out.trans (HBR.out.mono HB.out.size)⟩
      · have hid' : (xi == id) = false := by simpa using hid
        have HRES := hide (show FiS W L id n wr (.int .i64 ((k : Int) + 1)) from ⟨k + 1, rfl, hkl, (fun i h hi => by
          rcases Nat.lt_or_ge i k with h1 | h1
          · exact HQ.out i h h1
          · obtain rfl : i = k := by omega
            obtain ⟨h2, h3⟩ := HX.out
            rw [h3, ← HXI.out]
            exact hid), HBR.out⟩)
        clear hid hkl'
        go_wp2_with fail
        exact ⟨HRES.out, by simp only [intOf]; omega⟩
    · have hke : n = k := by omega
      subst hke
      clear hu hb hq
      go_wp2
      go_ret
      exact ⟨_, rfl, .inl ⟨rfl, fun y hy => by
        obtain ⟨i, hi, rfl⟩ := List.getElem_of_mem hy
        exact HQ.out i hi (by have := HN.out.1; omega)⟩, HB.out.trans (HBR.out.mono HB.out.size)⟩
def FsS (W : World) (L : List Ck) (now : Int) (n : Nat) (wr : World) (bv iv : Value) : Prop :=
  ∃ (k : Nat) (r : Int), iv = .int .i64 (k : Int) ∧ bv = .int .i64 r ∧ k ≤ n ∧ FirstIs (L.take k) now r ∧ Below W.heap.size W wr
theorem first_skip {L : List Ck} {now r : Int} {k : Nat} (hk : k < L.length) (h : FirstIs (L.take k) now r) (hn : dueO now L[k] = false) : FirstIs (L.take (k + 1)) now r := by
  have e : L.take (k + 1) = L.take k ++ [L[k]] := by rw [List.take_add_one, List.getElem?_eq_getElem hk]; rfl
  rcases h with ⟨rfl, h⟩ | ⟨j, hj, rfl, h1, h2⟩
  · refine .inl ⟨rfl, fun x hx => ?_⟩
    rw [e] at hx
    rcases List.mem_append.1 hx with hx | hx
    · exact h x hx
    · simp only [List.mem_singleton] at hx
      rw [hx]
      exact hn
  · rw [List.length_take] at hj
    refine .inr ⟨j, by rw [List.length_take]; omega, rfl, by simp only [List.getElem_take] at h1 ⊢; exact h1, fun i hi hd => ?_⟩
    rw [List.length_take] at hi
    simp only [List.getElem_take] at hd h2 ⊢
    rcases Nat.lt_or_ge i k with h3 | h3
    · exact h2 i (by rw [List.length_take]; omega) hd
    · obtain rfl : i = k := by omega
      rw [hn] at hd
      cases hd
theorem first_take {L : List Ck} {now r : Int} {k : Nat} (hk : k < L.length) (h : FirstIs (L.take k) now r) (hn : dueO now L[k] = true) (hl : ∀ (j : Nat) (hj : j < L.length), r = (j : Int) → L[k].due < L[j].due) : FirstIs (L.take (k + 1)) now (k : Int) := by
  refine .inr ⟨k, by rw [List.length_take]; omega, rfl, by simp only [List.getElem_take]; exact hn, fun i hi hd => ?_⟩
  rw [List.length_take] at hi
  simp only [List.getElem_take] at hd ⊢
  rcases Nat.lt_or_ge i k with h3 | h3
  · left
    rcases h with ⟨rfl, h⟩ | ⟨j, hj, rfl, h1, h2⟩
    · have := h (L[i]'(by omega)) (List.mem_iff_getElem.2 ⟨i, by rw [List.length_take]; omega, by rw [List.getElem_take]⟩)
      rw [this] at hd
      cases hd
    · rw [List.length_take] at hj
      have h4 := hl j (by omega) rfl
      have h5 := h2 i (by rw [List.length_take]; omega) (by simp only [List.getElem_take]; exact hd)
      simp only [List.getElem_take] at h5
      omega
  · obtain rfl : i = k := by omega
    exact .inr ⟨rfl, Nat.le_refl _⟩
theorem first_stay {L : List Ck} {now : Int} {j k : Nat} (hk : k < L.length) (hjk : j < k) (h : FirstIs (L.take k) now (j : Int)) (hl : ¬ L[k].due < L[j].due) : FirstIs (L.take (k + 1)) now (j : Int) := by
  rcases h with ⟨e, h⟩ | ⟨j', hj, e, h1, h2⟩
  · omega
  · obtain rfl : j = j' := by omega
    refine .inr ⟨j, by rw [List.length_take]; omega, rfl, by simp only [List.getElem_take] at h1 ⊢; exact h1, fun i hi hd => ?_⟩
    rw [List.length_take] at hi
    simp only [List.getElem_take] at hd h2 ⊢
    rcases Nat.lt_or_ge i k with h3 | h3
    · exact h2 i (by rw [List.length_take]; omega) hd
    · obtain rfl : i = k := by omega
      omega
set_option maxHeartbeats 8000000 in
set_option maxRecDepth 100000 in
theorem rfirst_any {w : World} {B : Nat} {u : Value} {L : List Ck} (hu : kK.row w B u L) (hl : L.length ≤ 65536) (now : Int) :
    Calls Try.prog 48 #[u, .int .i64 now] w fun e w' => ∃ r, e = .returned (.int .i64 r) ∧ FirstIs L now r ∧ Below w.heap.size w w' := by
  obtain ⟨A, c, rfl⟩ := EK.row_slice hu
  obtain ⟨n, hn⟩ : ∃ n, n = L.length := ⟨_, rfl⟩
  rw [← hn] at hu ⊢
  have HN := hide (show n = L.length ∧ n ≤ 65536 from ⟨hn, by omega⟩)
  have hni : (n : Int) ≤ 65536 := by omega
  have HU := hide hu
  have HS := hide (show FsS w L now n w (.int .i64 (-1)) (.int .i64 0) from ⟨0, -1, rfl, rfl, Nat.zero_le _, .inl ⟨rfl, fun k hk => by simp at hk⟩, Below.refl _ _⟩)
  clear hu hn hl
  go_enter Try.func48, Try.ntmps48
  go_wp2_with fail
  go_loopw [5, 6] (fun bv iv wr => FsS w L now n wr bv iv) (fun _ iv _ => n - (intOf iv).toNat)
  case atStart => exact HS.out
  case round =>
    obtain ⟨k, r0, rfl, rfl, hk, hf, hb⟩ := hrel
    have hu := EK.row_below HU.out hb
    have HB := hide hb
    have HF := hide hf
    rcases Nat.lt_or_ge k n with hkl | hkl
    · have hkl' : k < L.length := by have := HN.out.1; omega
      obtain ⟨r, cap, e1, hz1, hz2, -, -, hcell⟩ := EK.row_cells hu hkl'
      have hu2 := hu
      rw [← HN.out.1] at e1 hz1
      injection e1 with e1a e1b e1c
      subst e1a e1c
      simp only [maxLen] at hz2
      obtain ⟨x, hx⟩ : ∃ x, x = L[k] := ⟨_, rfl⟩
      have q2 := hcell 2 (by decide)
      have q4 := hcell 4 (by decide)
      rw [← hx] at q2 q4
      simp only [kK, List.getElem?_cons_zero, List.getElem?_cons_succ] at q2 q4
      have hki : (k : Int) < (n : Int) := by omega
      have HX := hide (show ∃ h : k < L.length, L[k] = x from ⟨hkl', hx.symm⟩)
      obtain ⟨xst, hst⟩ : ∃ y, y = x.st := ⟨_, rfl⟩
      obtain ⟨xdu, hdu⟩ : ∃ y, y = x.due := ⟨_, rfl⟩
      rw [← hst] at q2
      rw [← hdu] at q4
      have HXS := hide hst
      have HXD := hide hdu
      have HSK := hide (fun nq (hd : dueO now x = false) => show FsS w L now n (wr.drewN nq) (.int .i64 r0) (.int .i64 ((k : Int) + 1)) from ⟨k + 1, r0, rfl, rfl, hkl, first_skip hkl' HF.out (by rw [← hx]; exact hd), below_drewN HB.out nq⟩)
      have HTK := hide (fun nq (hd : dueO now x = true) (hj : ∀ (j : Nat) (hj : j < L.length), r0 = (j : Int) → xdu < L[j].due) => show FsS w L now n (wr.drewN nq) (.int .i64 (k : Int)) (.int .i64 ((k : Int) + 1)) from ⟨k + 1, k, rfl, rfl, hkl, first_take hkl' HF.out (by rw [← hx]; exact hd) (by rw [← hx, ← HXD.out]; exact hj), below_drewN HB.out nq⟩)
      by_cases h1 : xst = 1
      · subst h1
        by_cases h2 : xdu ≤ now
        · have hdo : dueO now x = true := by unfold dueO; rw [← HXS.out, ← HXD.out]; simp [h2]
          have HDO := hide hdo
          rcases hf with ⟨rfl, hno⟩ | ⟨j, hj, rfl, hj1, hj2⟩
          · clear hcell hu hu2 hx hb hno e1b hst hdu hdo hkl'
            go_wp2_with fail
            go_quiet (fail)
            go_wp2_with fail
            exact ⟨HTK.out _ HDO.out (fun j hj e => by omega), by simp only [intOf]; omega⟩
          · have hjk : j < k := by rw [List.length_take] at hj; omega
            have hjl : j < L.length := by omega
            obtain ⟨r', cap', e2, -, -, -, -, hcell2⟩ := EK.row_cells hu2 hjl
            rw [← HN.out.1] at e2
            injection e2 with e2a e2b e2c
            injection e2a with e2a
            injection e2a with e2a e2d e2e
            subst e2a
            have p4 := hcell2 4 (by decide)
            simp only [kK, List.getElem?_cons_zero, List.getElem?_cons_succ] at p4
            obtain ⟨y, hy⟩ : ∃ y, y = L[j] := ⟨_, rfl⟩
            rw [← hy] at p4
            obtain ⟨ydu, hyd⟩ : ∃ z, z = y.due := ⟨_, rfl⟩
            rw [← hyd] at p4
            have HYD := hide (show L[j].due = ydu from by rw [hyd, hy])
            have hjn : (j : Int) < (n : Int) := by omega
            by_cases h3 : xdu < ydu
            · have HRES := hide (fun nq => HTK.out nq HDO.out (fun j' hj' e => by
                obtain rfl : j = j' := by omega
                rw [HYD.out]
                exact h3))
              clear hcell hcell2 hu hu2 hx hb e1b hst hdu hdo hj1 hj2 e2b e2c hyd
              go_wp2_with fail
              go_quiet (fail)
              go_wp2_with fail
              exact ⟨HRES.out _, by simp only [intOf]; omega⟩
            · have HRES := hide (fun nq => show FsS w L now n (wr.drewN nq) (.int .i64 (j : Int)) (.int .i64 ((k : Int) + 1)) from ⟨k + 1, j, rfl, rfl, hkl, first_stay hkl' hjk HF.out (by rw [← hx, ← HXD.out, HYD.out]; exact h3), below_drewN HB.out nq⟩)
              have h3' : decide (xdu < ydu) = false := decide_eq_false h3
              clear hcell hcell2 hu hu2 hx hb e1b hst hdu hdo hj1 hj2 e2b e2c hyd
              go_wp2_with fail
              go_quiet (fail)
              go_wp2_with fail
              exact ⟨HRES.out _, by simp only [intOf]; omega⟩
        · have HDO := hide (show dueO now x = false from by unfold dueO; rw [← HXS.out, ← HXD.out]; simp [h2])
          have h2' : decide (xdu ≤ now) = false := decide_eq_false h2
          clear hcell hu hu2 hx hb e1b hst hdu hkl' hf h2
          go_wp2_with fail
          go_quiet (fail)
          go_wp2_with fail
          exact ⟨HSK.out _ HDO.out, by simp only [intOf]; omega⟩
      · have HDO := hide (show dueO now x = false from by unfold dueO; rw [← HXS.out]; simp [h1])
        have h1' : (xst == 1) = false := by simpa using h1
        clear hcell hu hu2 hx hb e1b hst hdu hkl' hf h1
        go_wp2_with fail
        go_quiet (fail)
        go_wp2_with fail
        exact ⟨HSK.out _ HDO.out, by simp only [intOf]; omega⟩
    · have hke : n = k := by omega
      subst hke
      have e1 : L.take n = L := List.take_of_length_le (by have := HN.out.1; omega)
      rw [e1] at hf
      have HF2 := hide hf
      clear hu hb hf e1
      go_wp2
      go_ret
      exact ⟨_, rfl, HF2.out, HB.out⟩
end Go.Proofs.Ythcnoamgkkbkcaa
