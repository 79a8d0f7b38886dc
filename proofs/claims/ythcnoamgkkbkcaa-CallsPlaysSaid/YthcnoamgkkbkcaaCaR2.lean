/- Chapter 14, calls: the reference: Open, State, Forget, Answer, Call; messages one by one. -/
import Derived.Test.YthcnoamgkkbkcaaCaR1
import Derived.Test.YthcnoamgkkbkcaaCpg
namespace Go.Proofs.Ythcnoamgkkbkcaa
open Go.RowKit

theorem rfind_none {w : World} {B : Nat} {u : Value} {L : List Ck} (hu : kK.row w B u L) (hl : L.length ≤ 65536) (me nx : Int) {id : Int} (h : fnd L id = none) :
    Calls Try.prog 50 #[.agg #[.int .i64 me, .int .i64 nx, u], .int .i64 id] w fun e w' => e = .returned (.int .i64 (-1)) ∧ Below w.heap.size w w' := by
  refine (rfind_any hu hl me nx id).mono ?_
  rintro e w' ⟨r, rfl, hr, hb⟩
  rcases hr with ⟨rfl, -⟩ | ⟨j, hj, rfl, hid⟩
  · exact ⟨rfl, hb⟩
  · exact absurd hid (fnd_none h _ (List.getElem_mem hj))
theorem rfind_some {w : World} {B : Nat} {u : Value} {L : List Ck} (hu : kK.row w B u L) (hl : L.length ≤ 65536) (hs : L.Pairwise fun a b => a.id < b.id) (me nx : Int) {id : Int} {k : Ck} (h : fnd L id = some k) :
    Calls Try.prog 50 #[.agg #[.int .i64 me, .int .i64 nx, u], .int .i64 id] w fun e w' => ∃ j : Nat, e = .returned (.int .i64 (j : Int)) ∧ L[j]? = some k ∧ Below w.heap.size w w' := by
  refine (rfind_any hu hl me nx id).mono ?_
  rintro e w' ⟨r, rfl, hr, hb⟩
  obtain ⟨h1, h2⟩ := fnd_some h
  rcases hr with ⟨rfl, hno⟩ | ⟨j, hj, rfl, hid⟩
  · exact absurd h2 (hno k h1)
  · exact ⟨j, rfl, by rw [List.getElem?_eq_getElem hj, ids_inj hs (List.getElem_mem hj) h1 (hid.trans h2.symm)], hb⟩
theorem EK.row_ne_of {P : Program} {α : Type} {K : EK P α} {w : World} {B : Nat} {v : Value} {l : List α} (h : K.row w B v l) {k : Nat} {cs : Array Value} {t : TypeId} {f : Nat × Nat} (hk : w.heap[k]? = some (.cells cs t f)) (ht : t ≠ K.e) : ∀ j, v.ownBlock = some j → ¬ j = k := fun _ e e2 => EK.row_ne h hk ht (e2 ▸ e)
theorem opens_succ {L : List Ck} {k : Nat} (h : k < L.length) : opens (L.take (k + 1)) = opens (L.take k) ++ if L[k].st = 1 then [L[k].id] else [] := by
  unfold opens
  rw [List.take_add_one, List.getElem?_eq_getElem h, List.filter_append, List.map_append]
  congr 1
  by_cases hc : L[k].st = 1 <;> simp [Ck.opn, hc]
def RoS (W : World) (B : Nat) (L : List Ck) (n : Nat) (wr : World) (ov iv : Value) : Prop :=
  ∃ k : Nat, iv = .int .i64 (k : Int) ∧ k ≤ n ∧ kI.row wr B ov (opens (L.take k)) ∧ Below W.heap.size W wr
set_option maxHeartbeats 8000000 in
set_option maxRecDepth 100000 in
theorem ropen_any {w : World} {B : Nat} {S : CS} {v : Value} (h : RC w B S v) (hl : S.L.length ≤ 65536) :
    Calls Try.prog 29 #[v] w fun e w' => ∃ v', e = .returned v' ∧ kI.row w' w.heap.size v' (opens S.L) ∧ Below w.heap.size w w' := by
  obtain ⟨u, rfl, hu⟩ := h
  obtain ⟨A, c, rfl⟩ := EK.row_slice hu
  obtain ⟨me, nx, L⟩ := S
  unfold rC
  simp only at hu hl ⊢
  obtain ⟨n, hn⟩ : ∃ n, n = L.length := ⟨_, rfl⟩
  rw [← hn] at hu ⊢
  have HN := hide (show n = L.length ∧ n ≤ 65536 from ⟨hn, by omega⟩)
  have hni : (n : Int) ≤ 65536 := by omega
  obtain ⟨W, hW⟩ : ∃ W, W = w.alloc (.cells #[.int .i64 me, .int .i64 nx, .slice A n c] 29) := ⟨_, rfl⟩
  have hal : Below w.heap.size w W := by rw [hW]; exact (Below.refl _ _).alloc (Nat.le_refl _) _
  have HB := hide hal
  have HU := hide (EK.row_below hu hal)
  have HO := hide (show W.heap[w.heap.size]? = some (.cells #[.int .i64 me, .int .i64 nx, .slice A n c] 29 (0, 0)) from by rw [hW]; exact obj_new _ _)
  have HS := hide (show RoS W w.heap.size L n W (.slice none 0 0) (.int .i64 0) from ⟨0, rfl, Nat.zero_le _, EK.row_nil _ _, Below.refl _ _⟩)
  rw [hW] at HS
  have HW := hide hW
  clear hu hn hl hal hW
  go_enter Try.func29, Try.ntmps29
  go_wp2_with fail
  go_loopw [3, 4] (fun ov iv wr => RoS W w.heap.size L n wr ov iv) (fun _ iv _ => n - (intOf iv).toNat)
  case atStart => exact HW.out ▸ HS.out
  case round =>
    obtain ⟨k, rfl, hk, hro, hb⟩ := hrel
    have hu := EK.row_below HU.out hb
    have HBR := hide hb
    have HRO := hide hro
    have z2 := obj_cell (obj_below HO.out hb) 2
    simp only [List.getElem?_toArray, List.getElem?_cons_zero, List.getElem?_cons_succ] at z2
    rcases Nat.lt_or_ge k n with hkl | hkl
    · have hkl' : k < L.length := by have := HN.out.1; omega
      obtain ⟨r, cap, e1, hz1, hz2, -, -, hcell⟩ := EK.row_cells hu hkl'
      rw [← HN.out.1] at e1 hz1
      injection e1 with e1a e1b e1c
      subst e1a e1c
      simp only [maxLen] at hz2
      obtain ⟨x, hx⟩ : ∃ x, x = L[k] := ⟨_, rfl⟩
      have q0 := hcell 0 (by decide)
      have q2 := hcell 2 (by decide)
      rw [← hx] at q0 q2
      simp only [kK, List.getElem?_cons_zero, List.getElem?_cons_succ, Nat.add_zero] at q0 q2
      have hki : (k : Int) < (n : Int) := by omega
      have hop := opens_succ hkl'
      rw [← hx] at hop
      have hlen : (opens (L.take k)).length ≤ 65536 := by
        unfold opens
        rw [List.length_map]
        exact Nat.le_trans (List.length_filter_le _ _) (by rw [List.length_take]; have := HN.out; omega)
      obtain ⟨xst, hst⟩ : ∃ y, y = x.st := ⟨_, rfl⟩
      obtain ⟨xid, hxid⟩ : ∃ y, y = x.id := ⟨_, rfl⟩
      rw [← hst] at q2 hop
      rw [← hxid] at q0 hop
      have hBz : w.heap.size ≤ wr.heap.size := by have := HB.out.size; have := hb.size; omega
      by_cases h1 : xst = 1
      · subst h1
        rw [if_pos rfl] at hop
        have hal := (Below.refl wr.heap.size wr).alloc (Nat.le_refl _) (.cells #[.int .i64 xid] 3)
        obtain ⟨v4, w4, happ, hrow4, hf4, hbl4⟩ := EK.app (EK.row_below hro hal) (EK.rd_one (K := kI) xid (obj_new wr _)) (by simp; omega) (by have := hal.size; omega) 54
        have HAPP : Hid ((Builtin.append_ #[54, 54] 54 #[u3, .slice (some ⟨wr.heap.size, 0, none⟩) 1 1]).run Try.prog (wr.alloc (.cells #[.int .i64 xid] 3)) = .ok v4 w4) := hide happ
        have HRES := hide (show RoS W w.heap.size L n w4 v4 (.int .i64 ((k : Int) + 1)) from ⟨k + 1, rfl, hkl, by rw [hop]; exact hrow4, (hb.trans (hal.mono hb.size)).trans (hf4.below _ (by have := hal.size; have := hb.size; omega) (fun q hq e => by
          obtain ⟨h5, h6, cs, h7⟩ := EK.row_typed hro e
          have h8 := HO.out
          rcases Nat.lt_or_ge q (w.heap.size + 1) with h9 | h9
          · obtain rfl : q = w.heap.size := by omega
            rw [obj_below HO.out hb] at h7
            simp only [Option.some.injEq, Obj.cells.injEq] at h7
            exact absurd h7.2.1 (by decide)
          · have h10 := HW.out
            rw [h10, World.size_alloc] at hq
            omega))⟩)
        clear hro hb hu hcell hx hal hrow4 hf4 hbl4 e1b hlen hop hst hxid happ hkl'
        go_wp2_with (refine wpList_append_run (v' := v4) (w' := w4) rfl (.tmp 19) (.tmp 26) 54 54 rfl rfl rfl ?_ ?_; exact HAPP.out)
        exact ⟨HRES.out, by simp only [intOf]; omega⟩
      · have h1' : (xst == 1) = false := by simpa using h1
        rw [if_neg h1, List.append_nil] at hop
        have HRES := hide (show RoS W w.heap.size L n wr u3 (.int .i64 ((k : Int) + 1)) from ⟨k + 1, rfl, hkl, by rw [hop]; exact hro, hb⟩)
        clear hro hb hu hcell hx e1b hlen hop hst hxid hkl' h1
        go_wp2_with fail
        exact ⟨HRES.out, by simp only [intOf]; omega⟩
    · have hke : n = k := by omega
      subst hke
      have e1 : L.take n = L := List.take_of_length_le (by have := HN.out.1; omega)
      rw [e1] at hro
      have HRO2 := hide hro
      clear hu hb hro e1 HRO
      go_wp2
      go_ret
      exact ⟨_, rfl, HRO2.out, HB.out.trans (HBR.out.mono HB.out.size)⟩
set_option maxHeartbeats 8000000 in
set_option maxRecDepth 100000 in
theorem rstate_any {w : World} {B : Nat} {S : CS} {v : Value} (h : RC w B S v) (hs : S.L.Pairwise fun a b => a.id < b.id) (hl : S.L.length ≤ 65536) (id : Int) :
    Calls Try.prog 26 #[v, .int .i64 id] w fun e w' => e = .returned (.tuple #[.int .i64 (cState S id).1, .string (cState S id).2]) ∧ Below w.heap.size w w' := by
  obtain ⟨u, rfl, hu⟩ := h
  obtain ⟨A, c, rfl⟩ := EK.row_slice hu
  obtain ⟨me, nx, L⟩ := S
  unfold rC
  simp only at hu hl ⊢
  obtain ⟨n, hn⟩ : ∃ n, n = L.length := ⟨_, rfl⟩
  have hal := (Below.refl w.heap.size w).alloc (Nat.le_refl _) (.cells #[.int .i64 me, .int .i64 nx, .slice A L.length c] 29)
  have hu1 := EK.row_below hu hal
  unfold cState
  simp only at hs ⊢
  rcases e0 : fnd L id with _ | k
  · have HFI := hide (rfind_none hu1 hl me nx e0)
    simp only
    rw [← hn] at HFI hal ⊢
    have HB := hide hal
    have HO := hide (obj_new w (.cells #[.int .i64 me, .int .i64 nx, .slice A n c] 29))
    clear hu hu1 hs hal hn e0 hl
    go_enter Try.func26, Try.ntmps26
    go_wp2_with fail
    refine HFI.out.mono ?_
    rintro e w1 ⟨rfl, hb1⟩
    have HBB := hide (HB.out.trans (hb1.mono HB.out.size))
    clear hb1
    go_wp2
    go_ret2
    exact ⟨rfl, HBB.out⟩
  · have HFI := hide (rfind_some hu1 hl hs me nx e0)
    simp only
    rw [← hn] at HFI hal hl hu ⊢
    have HB := hide hal
    have HO := hide (obj_new w (.cells #[.int .i64 me, .int .i64 nx, .slice A n c] 29))
    have HU := hide hu
    have HN := hide hn
    have hni : (n : Int) ≤ 65536 := by omega
    obtain ⟨kid, kdst, kst, ksent, kdue, kbody, krep⟩ := k
    simp only
    clear hu hu1 hs hal hn e0 hl
    go_enter Try.func26, Try.ntmps26
    go_wp2_with fail
    refine HFI.out.mono ?_
    rintro e w1 ⟨j, rfl, hk, hb1⟩
    obtain ⟨hj, hk⟩ := List.getElem?_eq_some_iff.1 hk
    have hbb := HB.out.trans (hb1.mono HB.out.size)
    have z2 := obj_cell (obj_below HO.out hb1) 2
    simp only [List.getElem?_toArray, List.getElem?_cons_zero, List.getElem?_cons_succ] at z2
    have HBB := hide hbb
    obtain ⟨r, cap, e1, hz1, hz2, -, -, hcell⟩ := EK.row_cells (EK.row_below HU.out hbb) hj
    rw [← HN.out] at e1 hz1
    injection e1 with e1a e1b e1c
    subst e1a e1c
    simp only [maxLen] at hz2
    have q2 := hcell 2 (by decide)
    have q6 := hcell 6 (by decide)
    rw [hk] at q2 q6
    simp only [kK, List.getElem?_cons_zero, List.getElem?_cons_succ] at q2 q6
    have hjn : (j : Int) < (n : Int) := by have := HN.out; omega
    have hj0 : ¬ (j : Int) < 0 := by omega
    clear hcell hb1 hbb e1b hk
    go_wp2_with fail
    go_quiet (fail)
    go_wp2
    go_ret2
    exact ⟨rfl, below_drewN HBB.out _⟩
def SameM (w0 : World) (n : Nat) (w : World) (i : Value) : Prop := ∃ k : Nat, i = .int .i64 k ∧ k ≤ n ∧ Below w0.heap.size w0 w
set_option maxHeartbeats 4000000 in
set_option maxRecDepth 100000 in
theorem msame_yes {w : World} {B B' : Nat} {u v : Value} {l : List Mg} (hu : kM.row w B u l) (hv : kM.row w B' v l) : Calls Try.prog 19 #[u, v] w fun e w' => e = .returned (.bool true) ∧ Below w.heap.size w w' := by
  obtain ⟨A, c, rfl⟩ := EK.row_slice hu
  obtain ⟨A', c', rfl⟩ := EK.row_slice hv
  obtain ⟨n, hn⟩ : ∃ n, n = l.length := ⟨_, rfl⟩
  rw [← hn] at hu hv ⊢
  have HN := hide hn
  have HU := hide hu
  have HV := hide hv
  have HS : Hid (SameM w n w (.int .i64 0)) := hide ⟨0, rfl, Nat.zero_le _, Below.refl _ _⟩
  clear hu hv hn
  go_enter Try.func19, Try.ntmps19
  go_wp2_with fail
  go_loopw [5] (fun i wr => SameM w n wr i) (fun i _ => n - (intOf i).toNat)
  case atStart => exact HS.out
  case round =>
    obtain ⟨k, rfl, hk, hb⟩ := hrel
    have HB := hide hb
    have hu := EK.row_below HU.out hb
    have hv := EK.row_below HV.out hb
    clear hb
    rcases Nat.lt_or_ge k n with hkl | hkl
    · have hkl' : k < l.length := by have := HN.out; omega
      obtain ⟨r, cap, e1, hz1, hz2, -, -, hcell⟩ := EK.row_cells hu hkl'
      obtain ⟨r', cap', e2, hz3, hz4, -, -, hcell2⟩ := EK.row_cells hv hkl'
      rw [← HN.out] at e1 e2 hz1 hz3
      injection e1 with e1a e1b e1c
      subst e1a e1c
      injection e2 with e2a e2b e2c
      subst e2a e2c
      simp only [maxLen] at hz2 hz4
      obtain ⟨x, hx⟩ : ∃ x, x = l[k] := ⟨_, rfl⟩
      have q0 := hcell 0 (by decide)
      have p0 := hcell2 0 (by decide)
      have q1 := hcell 1 (by decide)
      have p1 := hcell2 1 (by decide)
      have q2 := hcell 2 (by decide)
      have p2 := hcell2 2 (by decide)
      have q3 := hcell 3 (by decide)
      have p3 := hcell2 3 (by decide)
      have q4 := hcell 4 (by decide)
      have p4 := hcell2 4 (by decide)
      rw [← hx] at q0 q1 q2 q3 q4 p0 p1 p2 p3 p4
      simp only [kM, List.getElem?_cons_zero, List.getElem?_cons_succ, Nat.add_zero] at q0 q1 q2 q3 q4 p0 p1 p2 p3 p4
      have hki : (k : Int) < (n : Int) := by omega
      have HRES := hide (fun nq => show SameM w n (wr.drewN nq) (.int .i64 ((k : Int) + 1)) from ⟨k + 1, rfl, hkl, below_drewN HB.out nq⟩)
      clear hcell hcell2 hu hv hx e1b e2b
      go_wp2_with fail
      go_quiet (fail)
      go_wp2_with fail
      exact ⟨HRES.out _, by simp only [intOf]; omega⟩
    · obtain rfl : k = n := by omega
      clear hu hv
      go_wp2
      go_ret
      exact ⟨rfl, HB.out⟩
def rfA (bn : Nat) (id : Int) (j : Nat) (u x : Nat → Value) : Act := ⟨#[u 0, .int .i64 id, .pointer (some ⟨bn, 0, none⟩), u 3, .pointer (some ⟨(bn + 1), 0, none⟩), .bool false, .int .i64 (j : Int), u 7, u 8, u 9, u 10, u 11, u 12, u 13, u 14, u 15, u 16, u 17, u 18, u 19, u 20, u 21, x 0, x 1, x 2, x 3, x 4, x 5, x 6, x 7, x 8, x 9, x 10, x 11, u 34], []⟩
def rfV (bn : Nat) (r0 n c j : Nat) (qx : Nat) (qw : Value) : Prop :=
  match qx with
  | 0 => qw = .pointer (some ⟨bn, 2, none⟩)
  | 1 => qw = .slice (some ⟨r0, 0, none⟩) n c
  | 2 => qw = .int .i64 (j : Int)
  | 3 => qw = partV 7 (.slice (some ⟨r0, 0, none⟩) n c) 0 j
  | 5 => qw = .pointer (some ⟨bn, 2, none⟩)
  | 6 => qw = .slice (some ⟨r0, 0, none⟩) n c
  | 7 => qw = .int .i64 (j : Int)
  | 8 => qw = .int .i64 ((j : Int) + 1)
  | 9 => qw = partV 7 (.slice (some ⟨r0, 0, none⟩) n c) (j + 1) n
  | 11 => qw = .pointer (some ⟨bn, 2, none⟩)
  | _ => True
theorem take_drop_filter {L : List Ck} (hs : L.Pairwise fun a b => a.id < b.id) {j : Nat} (hj : j < L.length) : L.take j ++ L.drop (j + 1) = L.filter fun k => k.id != L[j].id := by
  have e : L = L.take j ++ (L[j] :: L.drop (j + 1)) := by rw [List.getElem_cons_drop, List.take_append_drop]
  have h1 : ∀ k ∈ L.take j, k.id < L[j].id := fun k hk => by
    obtain ⟨i, hi, rfl⟩ := List.getElem_of_mem hk
    rw [List.length_take] at hi
    rw [List.getElem_take]
    exact List.pairwise_iff_getElem.1 hs i j (by omega) hj (by omega)
  have h2 : ∀ k ∈ L.drop (j + 1), L[j].id < k.id := fun k hk => by
    obtain ⟨i, hi, rfl⟩ := List.getElem_of_mem hk
    rw [List.length_drop] at hi
    rw [List.getElem_drop]
    exact List.pairwise_iff_getElem.1 hs j (j + 1 + i) hj (by omega) (by omega)
  generalize L[j] = y at e h1 h2 ⊢
  conv => rhs; rw [e]
  rw [List.filter_append, List.filter_cons, if_neg (by simp), List.filter_eq_self.2 (fun k hk => by have := h1 k hk; simp; omega), List.filter_eq_self.2 (fun k hk => by have := h2 k hk; simp; omega)]
set_option maxHeartbeats 8000000 in
set_option maxRecDepth 100000 in
theorem rforget_any {w : World} {B : Nat} {S : CS} {v : Value} (h : RC w B S v) (hB : B ≤ w.heap.size) (hs : S.L.Pairwise fun a b => a.id < b.id) (hl : S.L.length ≤ 65536) (id : Int) :
    Calls Try.prog 23 #[v, .int .i64 id] w fun e w' => ∃ v', e = .returned (.tuple #[v', .bool (cForget S id).2]) ∧ RC w' B (cForget S id).1 v' ∧ Below w.heap.size w w' := by
  obtain ⟨u, rfl, hu⟩ := h
  obtain ⟨A, c, rfl⟩ := EK.row_slice hu
  obtain ⟨me, nx, L⟩ := S
  unfold rC
  simp only at hu hl ⊢
  obtain ⟨n, hn⟩ : ∃ n, n = L.length := ⟨_, rfl⟩
  unfold cForget
  simp only at hs ⊢
  have hal := ((Below.refl w.heap.size w).alloc (Nat.le_refl _) (.cells #[.int .i64 me, .int .i64 nx, .slice A L.length c] 29)).alloc (by simp) (.cells #[.int .i64 0, .int .i64 0, .slice none 0 0] 29)
  have HB := hide hal
  have HO := hide (obj_alloc (obj_new w (.cells #[.int .i64 me, .int .i64 nx, .slice A L.length c] 29)) (.cells #[.int .i64 0, .int .i64 0, .slice none 0 0] 29))
  have HP := hide (obj_new' w (.cells #[.int .i64 me, .int .i64 nx, .slice A L.length c] 29) (.cells #[.int .i64 0, .int .i64 0, .slice none 0 0] 29))
  have hu1 := EK.row_below hu hal
  have hst := fun (w1 : World) (h1 : w1.heap[w.heap.size + 1]? = some (.cells #[.int .i64 0, .int .i64 0, .slice none 0 0] 29 (0, 0))) => store_whole (P := Try.prog) (ty := 29) h1 (cells := #[.int .i64 me, .int .i64 nx, .slice A L.length c]) info29 rfl (by simp [Value.oneCell'])
  have hfin := fun (w1 : World) (hbb : Below w.heap.size w w1) (hp : w1.heap[w.heap.size + 1]? = some (.cells #[.int .i64 0, .int .i64 0, .slice none 0 0] 29 (0, 0))) => show RC (w1.setRow (w.heap.size + 1) #[.int .i64 me, .int .i64 nx, .slice A L.length c]) B ⟨me, nx, L⟩ (.agg #[.int .i64 me, .int .i64 nx, .slice A L.length c]) ∧ Below w.heap.size w (w1.setRow (w.heap.size + 1) #[.int .i64 me, .int .i64 nx, .slice A L.length c]) from
    ⟨⟨_, rfl, EK.row_fr (EK.row_below hu hbb) (setRow_fr' w1 (w.heap.size + 1) #[.int .i64 me, .int .i64 nx, .slice A L.length c]) (EK.row_ne_of (EK.row_below hu hbb) hp (by decide))⟩, hbb.trans ((setRow_fr' w1 (w.heap.size + 1) _).below _ hbb.size (fun j hj e => by omega))⟩
  rcases e0 : fnd L id with _ | k
  · have HFI := hide (rfind_none hu1 hl me nx e0)
    simp only
    have HST := hide hst
    have HFIN := hide hfin
    rw [← hn] at HFI hal HST HFIN HO HP HB ⊢
    clear hu hu1 hs hal hn e0 hl hst hfin
    go_enter Try.func23, Try.ntmps23
    go_wp2_with fail
    refine HFI.out.mono ?_
    rintro e w1 ⟨rfl, hb1⟩
    have HO1 := hide (obj_below HO.out hb1)
    have HP1 := hide (obj_below HP.out hb1)
    have z0 := obj_cell HO1.out 0
    have z1 := obj_cell HO1.out 1
    have z2 := obj_cell HO1.out 2
    simp only [List.getElem?_toArray, List.getElem?_cons_zero, List.getElem?_cons_succ] at z0 z1 z2
    have HBB := hide (HB.out.trans (hb1.mono HB.out.size))
    have HOO := hide (setRow_at' (C' := #[.int .i64 me, .int .i64 nx, .slice A n c]) HP1.out)
    clear hb1
    go_wp2_with (refine wpList_storev' rfl 29 (.tmp 4) (.tmp 21) rfl rfl rfl (HST.out _ HP1.out) ?_)
    refine bodyPost_ret (res_ct rfl _ _ (w.heap.size + 1) 29 _ (0, 0) _ rfl HOO.out Try.underlying29 rfl info29) rfl ?_
    exact ⟨_, rfl, HFIN.out _ HBB.out HP1.out⟩
  · have HFI := hide (rfind_some hu1 hl hs me nx e0)
    have hkid := (fnd_some e0).2
    simp only
    have HST := hide hst
    have HFIN := hide hfin
    rw [← hn] at HFI hal hl hu HST HFIN HO HP HB ⊢
    have HU := hide hu
    have HN := hide hn
    have HS := hide hs
    have hni : (n : Int) ≤ 65536 := by omega
    have HBS := hide hB
    by_cases h1 : k.st = 1
    · rw [if_pos h1]
      simp only
      clear hu hu1 hs hal hn e0 hl hst hfin hB hkid
      go_enter Try.func23, Try.ntmps23
      go_wp2_with fail
      refine HFI.out.mono ?_
      rintro e w1 ⟨j, rfl, hk, hb1⟩
      obtain ⟨hj, hk⟩ := List.getElem?_eq_some_iff.1 hk
      have hbb := HB.out.trans (hb1.mono HB.out.size)
      have HO1 := hide (obj_below HO.out hb1)
      have HP1 := hide (obj_below HP.out hb1)
      have z0 := obj_cell HO1.out 0
      have z1 := obj_cell HO1.out 1
      have z2 := obj_cell HO1.out 2
      simp only [List.getElem?_toArray, List.getElem?_cons_zero, List.getElem?_cons_succ] at z0 z1 z2
      have HBB := hide hbb
      have hu1 := EK.row_below HU.out hbb
      obtain ⟨r0, cap, e1, hz1, hz2, -, -, hcell⟩ := EK.row_cells hu1 hj
      rw [← HN.out] at e1 hz1
      injection e1 with e1a e1b e1c
      subst e1a e1c
      simp only [maxLen] at hz2
      have q2 := hcell 2 (by decide)
      rw [hk] at q2
      simp only [kK, List.getElem?_cons_zero, List.getElem?_cons_succ] at q2
      have hjn : (j : Int) < (n : Int) := by have := HN.out; omega
      have hj0 : ¬ (j : Int) < 0 := by omega
      rw [h1] at q2
      have HOO := hide (setRow_at' (C' := #[.int .i64 me, .int .i64 nx, .slice (some ⟨r0, 0, none⟩) n c]) HP1.out)
      clear hcell hb1 hbb e1b h1 hu1 hk
      go_wp2_with (refine wpList_storev' rfl 29 (.tmp 4) (.tmp 21) rfl rfl rfl (HST.out _ HP1.out) ?_)
      refine bodyPost_ret (res_ct rfl _ _ (w.heap.size + 1) 29 _ (0, 0) _ rfl HOO.out Try.underlying29 rfl info29) rfl ?_
      exact ⟨_, rfl, HFIN.out _ HBB.out HP1.out⟩
    · rw [if_neg h1]
      simp only
      have h1' : (k.st == 1) = false := by simpa using h1
      have HID := hide hkid
      clear hu hu1 hs hal hn e0 hl hst hfin hB hkid h1
      go_enter Try.func23, Try.ntmps23
      go_wp2_with fail
      refine HFI.out.mono ?_
      rintro e w1 ⟨j, rfl, hk, hb1⟩
      obtain ⟨hj, hk⟩ := List.getElem?_eq_some_iff.1 hk
      have hbb := HB.out.trans (hb1.mono HB.out.size)
      have HO1 := hide (obj_below HO.out hb1)
      have HP1 := hide (obj_below HP.out hb1)
      have z0 := obj_cell HO1.out 0
      have z1 := obj_cell HO1.out 1
      have z2 := obj_cell HO1.out 2
      simp only [List.getElem?_toArray, List.getElem?_cons_zero, List.getElem?_cons_succ] at z0 z1 z2
      have HBB := hide hbb
      have hu1 := EK.row_below HU.out hbb
      obtain ⟨r0, cap, e1, hz1, hz2, -, -, hcell⟩ := EK.row_cells hu1 hj
      rw [← HN.out] at e1 hz1
      injection e1 with e1a e1b e1c
      subst e1a e1c
      simp only [maxLen] at hz2
      have q2 := hcell 2 (by decide)
      rw [hk] at q2
      simp only [kK, List.getElem?_cons_zero, List.getElem?_cons_succ] at q2
      have hjn : (j : Int) < (n : Int) := by have := HN.out; omega
      have hj0 : ¬ (j : Int) < 0 := by omega
      generalize k.st = xst at q2 h1'
      have HR0 := hide (show kK.row w1 0 (.slice (some ⟨r0, 0, none⟩) n c) L from EK.row_base hu1 (Nat.zero_le _))
      have HVB : Hid ((Value.slice (some ⟨r0, 0, none⟩) n c).ownBlock ≠ some w.heap.size) := hide (fun e => absurd (EK.row_typed HU.out e).2.1 (Nat.lt_irrefl _))
      have HLN : Hid (L.length ≤ 1048576) := hide (by have := HN.out; omega)
      have HKL := hide hj
      have HL2 := hide (show L.take j ++ L.drop (j + 1) = L.filter fun k => k.id != id from by rw [take_drop_filter HS.out hj, hk, HID.out])
      clear hcell hb1 hbb e1b hu1 HST HFIN hj hk
      go_wp2_with fail
      clear z0 z1 z2 q2
      refine wp_region_c (rfA w.heap.size id j) (fun j => #[22, 23, 24, 25, 26, 27, 28, 29, 30, 31, 32, 33, 0].getD j 0) (fun d x w' => CuG kK w1 w.heap.size 2 #[.int .i64 me, .int .i64 nx, .slice (some ⟨r0, 0, none⟩) n c] 29 L j (d 4) (d 10) (d 12) (x 4) (x 10) w') (fun qi qv => rfV w.heap.size r0 n c j qi qv) (by kernel_rfl) (by kernel_rfl) rfl (CuG.start HO1.out _ _) ?_ ?_ ?_
      · exact fun u => ⟨fun x v => rfl, fun x v => rfl, fun x v => rfl, fun x v => rfl, fun x v => rfl, fun x v => rfl, fun x v => rfl, fun x v => rfl, fun x v => rfl, fun x v => rfl, fun x v => rfl, fun x v => rfl, fun x v => rfl, trivial⟩
      · refine fun u => ⟨?_, ?_, ?_, ?_, ?_, ?_, ?_, ?_, ?_, ?_, ?_, ?_, ?_, trivial⟩
        · intro d x w' hS hdi hv hp hcl K hK
          refine ⟨rfl, ?_⟩
          unfold rfA at hK ⊢
          go_wp2
          exact hK (.pointer (some ⟨w.heap.size, 2, none⟩)) w' hS rfl
        · intro d x w' hS hdi hv hp hcl K hK
          have d0 : x 0 = .pointer (some ⟨w.heap.size, 2, none⟩) := hv 0 (hp 0 (by kernel_rfl))
          have ne : d 12 = false := Bool.eq_false_iff.2 (fun hz => absurd (hcl 12 1 hz (by kernel_rfl)) (by rw [hdi]; decide))
          have hS1 : CuG kK w1 w.heap.size 2 #[.int .i64 me, .int .i64 nx, .slice (some ⟨r0, 0, none⟩) n c] 29 L j (d 4) (d 10) (d 12) (x 4) (x 10) w' := hS
          have z := obj_cell hS1.o 2
          simp only [ne, if_neg Bool.false_ne_true, List.getElem?_toArray, List.getElem?_cons_zero, List.getElem?_cons_succ] at z
          refine ⟨rfl, ?_⟩
          unfold rfA at hK ⊢
          simp only [d0] at hK ⊢
          go_wp2
          exact hK (.slice (some ⟨r0, 0, none⟩) n c) w' hS rfl
        · intro d x w' hS hdi hv hp hcl K hK
          refine ⟨rfl, ?_⟩
          unfold rfA at hK ⊢
          go_wp2
          exact hK (.int .i64 (j : Int)) w' hS rfl
        · intro d x w' hS hdi hv hp hcl K hK
          have d0 : x 1 = .slice (some ⟨r0, 0, none⟩) n c := hv 1 (hp 1 (by kernel_rfl))
          have d1 : x 2 = .int .i64 (j : Int) := hv 2 (hp 2 (by kernel_rfl))
          have hS1 : CuG kK w1 w.heap.size 2 #[.int .i64 me, .int .i64 nx, .slice (some ⟨r0, 0, none⟩) n c] 29 L j (d 4) (d 10) (d 12) (x 4) (x 10) w' := hS
          refine ⟨rfl, ?_⟩
          unfold rfA at hK ⊢
          simp only [d0, d1] at hK ⊢
          refine wp_slice_n 27 (.tmp 23) none (some (.tmp 24)) rfl rfl rfl rfl (EK.part (K := kK) (hS1.orow HR0.out HVB.out) (lo := 0) (hi := j) (Nat.zero_le _) (Nat.le_of_lt HKL.out) none (some (.int .i64 (j : Int))) (.inl ⟨rfl, rfl⟩) (.inr rfl)).1 ?_
          exact hK _ w' hS rfl
        · intro d x w' hS hdi hv hp hcl K hK
          have d0 : x 3 = partV 7 (.slice (some ⟨r0, 0, none⟩) n c) 0 j := hv 3 (hp 3 (by kernel_rfl))
          have na : d 10 = false := Bool.eq_false_iff.2 (fun hz => absurd (hcl 10 4 hz (by kernel_rfl)) (by rw [hdi]; decide))
          have hS1 : CuG kK w1 w.heap.size 2 #[.int .i64 me, .int .i64 nx, .slice (some ⟨r0, 0, none⟩) n c] 29 L j (d 4) (d 10) (d 12) (x 4) (x 10) w' := hS
          rw [na] at hS1
          obtain ⟨v2, w2, hrun, hS2⟩ := hS1.copy HR0.out HVB.out HKL.out HLN.out 27
          refine ⟨rfl, ?_⟩
          unfold rfA at hK ⊢
          simp only [d0] at hK ⊢
          refine wp_append_n (.const (.slice none 0 0)) (.tmp 25) 27 27 rfl rfl rfl hrun ?_
          exact hK v2 w2 (show CuG kK w1 w.heap.size 2 #[.int .i64 me, .int .i64 nx, .slice (some ⟨r0, 0, none⟩) n c] 29 L j (true) (d 10) (d 12) (v2) (x 10) w2 by rw [na]; exact hS2) trivial
        · intro d x w' hS hdi hv hp hcl K hK
          refine ⟨rfl, ?_⟩
          unfold rfA at hK ⊢
          go_wp2
          exact hK (.pointer (some ⟨w.heap.size, 2, none⟩)) w' hS rfl
        · intro d x w' hS hdi hv hp hcl K hK
          have d0 : x 5 = .pointer (some ⟨w.heap.size, 2, none⟩) := hv 5 (hp 5 (by kernel_rfl))
          have ne : d 12 = false := Bool.eq_false_iff.2 (fun hz => absurd (hcl 12 6 hz (by kernel_rfl)) (by rw [hdi]; decide))
          have hS1 : CuG kK w1 w.heap.size 2 #[.int .i64 me, .int .i64 nx, .slice (some ⟨r0, 0, none⟩) n c] 29 L j (d 4) (d 10) (d 12) (x 4) (x 10) w' := hS
          have z := obj_cell hS1.o 2
          simp only [ne, if_neg Bool.false_ne_true, List.getElem?_toArray, List.getElem?_cons_zero, List.getElem?_cons_succ] at z
          refine ⟨rfl, ?_⟩
          unfold rfA at hK ⊢
          simp only [d0] at hK ⊢
          go_wp2
          exact hK (.slice (some ⟨r0, 0, none⟩) n c) w' hS rfl
        · intro d x w' hS hdi hv hp hcl K hK
          refine ⟨rfl, ?_⟩
          unfold rfA at hK ⊢
          go_wp2
          exact hK (.int .i64 (j : Int)) w' hS rfl
        · intro d x w' hS hdi hv hp hcl K hK
          have d0 : x 7 = .int .i64 (j : Int) := hv 7 (hp 7 (by kernel_rfl))
          refine ⟨rfl, ?_⟩
          unfold rfA at hK ⊢
          simp only [d0] at hK ⊢
          go_wp2
          exact hK (.int .i64 ((j : Int) + 1)) w' hS rfl
        · intro d x w' hS hdi hv hp hcl K hK
          have d0 : x 6 = .slice (some ⟨r0, 0, none⟩) n c := hv 6 (hp 6 (by kernel_rfl))
          have d1 : x 8 = .int .i64 ((j : Int) + 1) := hv 8 (hp 8 (by kernel_rfl))
          have hS1 : CuG kK w1 w.heap.size 2 #[.int .i64 me, .int .i64 nx, .slice (some ⟨r0, 0, none⟩) n c] 29 L j (d 4) (d 10) (d 12) (x 4) (x 10) w' := hS
          have hpart := (EK.part (K := kK) (hS1.orow HR0.out HVB.out) (lo := j + 1) (hi := L.length) HKL.out (Nat.le_refl _) (some (.int .i64 ((j + 1 : Nat) : Int))) none (.inr rfl) (.inl ⟨rfl, rfl⟩)).1
          rw [← HN.out] at hpart
          refine ⟨rfl, ?_⟩
          unfold rfA at hK ⊢
          simp only [d0, d1] at hK ⊢
          refine wp_slice_n 27 (.tmp 28) (some (.tmp 30)) none rfl rfl rfl rfl hpart ?_
          exact hK _ w' hS rfl
        · intro d x w' hS hdi hv hp hcl K hK
          have d1 : x 9 = partV 7 (.slice (some ⟨r0, 0, none⟩) n c) (j + 1) n := hv 9 (hp 9 (by kernel_rfl))
          have yc : d 4 = true := hp 4 (by kernel_rfl)
          have ne : d 12 = false := Bool.eq_false_iff.2 (fun hz => absurd (hcl 12 10 hz (by kernel_rfl)) (by rw [hdi]; decide))
          have hS1 : CuG kK w1 w.heap.size 2 #[.int .i64 me, .int .i64 nx, .slice (some ⟨r0, 0, none⟩) n c] 29 L j (d 4) (d 10) (d 12) (x 4) (x 10) w' := hS
          rw [hdi, yc] at hS1
          obtain ⟨v3, w2, hrun, hS2⟩ := hS1.app HR0.out HVB.out (by decide) HKL.out HLN.out 27
          rw [← HN.out] at hrun
          have hS2' : CuG kK w1 w.heap.size 2 #[.int .i64 me, .int .i64 nx, .slice (some ⟨r0, 0, none⟩) n c] 29 L j (true) (true) (d 12) (x 4) (v3) w2 := by rw [ne]; exact hS2
          refine ⟨rfl, ?_⟩
          unfold rfA at hK ⊢
          simp only [d1] at hK ⊢
          refine wp_append_n (.tmp 26) (.tmp 31) 27 27 rfl rfl rfl hrun ?_
          exact hK v3 w2 (show CuG kK w1 w.heap.size 2 #[.int .i64 me, .int .i64 nx, .slice (some ⟨r0, 0, none⟩) n c] 29 L j (d 4) (true) (d 12) (x 4) (v3) w2 by rw [yc]; exact hS2') trivial
        · intro d x w' hS hdi hv hp hcl K hK
          refine ⟨rfl, ?_⟩
          unfold rfA at hK ⊢
          go_wp2
          exact hK (.pointer (some ⟨w.heap.size, 2, none⟩)) w' hS rfl
        · intro d x w' hS hdi hv hp hcl K hK
          have d0 : x 11 = .pointer (some ⟨w.heap.size, 2, none⟩) := hv 11 (hp 11 (by kernel_rfl))
          have ya : d 10 = true := hp 10 (by kernel_rfl)
          have hS1 : CuG kK w1 w.heap.size 2 #[.int .i64 me, .int .i64 nx, .slice (some ⟨r0, 0, none⟩) n c] 29 L j (d 4) (d 10) (d 12) (x 4) (x 10) w' := hS
          rw [hdi, ya] at hS1
          obtain ⟨A5, c5, e3⟩ := EK.row_slice (hS1.a rfl)
          generalize List.length _ = m5 at e3
          have z := obj_cell hS1.o 2
          have tz := obj_frozen hS1.o 2
          simp only [if_neg Bool.false_ne_true, List.getElem?_toArray, List.getElem?_cons_zero, List.getElem?_cons_succ] at z
          have hS2 := hS1.store (by decide)
          refine ⟨rfl, ?_⟩
          unfold rfA at hK ⊢
          simp only [d0, e3] at hK ⊢
          go_wp2
          refine hK undef _ (show CuG kK w1 w.heap.size 2 #[.int .i64 me, .int .i64 nx, .slice (some ⟨r0, 0, none⟩) n c] 29 L j (d 4) (d 10) (true) (x 4) (.slice A5 m5 c5) _ from ?_) trivial
          rw [ya]
          rw [e3] at hS2
          exact hS2
      · intro u hu d x w' hS hd hv
        have hda := hd 10 (by decide)
        have hde := hd 12 (by decide)
        have hS1 : CuG kK w1 w.heap.size 2 #[.int .i64 me, .int .i64 nx, .slice (some ⟨r0, 0, none⟩) n c] 29 L j (d 4) (d 10) (d 12) (x 4) (x 10) w' := hS
        rw [hda, hde] at hS1
        have hrow := hS1.a rfl
        rw [HL2.out] at hrow
        have hN := hS1.o
        rw [if_pos rfl] at hN
        have hO := hS1.fr.obj HP1.out (by omega)
        have hBw := HBB.out.trans (hS1.fr.below _ HBB.out.size (fun j hj e => by omega))
        obtain ⟨A5, c5, e3⟩ := EK.row_slice hrow
        obtain ⟨m5, hm5⟩ : ∃ m, m = (L.filter fun k => k.id != id).length := ⟨_, rfl⟩
        rw [← hm5] at e3
        rw [e3] at hrow hN
        have hst := store_whole (P := Try.prog) (ty := 29) hO (cells := #[.int .i64 me, .int .i64 nx, .slice A5 m5 c5]) info29 rfl (by simp [Value.oneCell'])
        have HST := hide hst
        have F := setRow_fr' w' (w.heap.size + 1) #[.int .i64 me, .int .i64 nx, .slice A5 m5 c5]
        have HFIN := hide (show RC (w'.setRow (w.heap.size + 1) #[.int .i64 me, .int .i64 nx, .slice A5 m5 c5]) B ⟨me, nx, L.filter fun k => k.id != id⟩ (.agg #[.int .i64 me, .int .i64 nx, .slice A5 m5 c5]) ∧ Below w.heap.size w (w'.setRow (w.heap.size + 1) #[.int .i64 me, .int .i64 nx, .slice A5 m5 c5]) from
          ⟨⟨_, rfl, EK.row_base (EK.row_fr hrow F (EK.row_ne_of hrow hO (by decide))) (by have := HBS.out; have := HBB.out.size; omega)⟩, hBw.trans (F.below _ hBw.size (fun j hj e => by omega))⟩)
        have HOO := hide (setRow_at' (C' := #[.int .i64 me, .int .i64 nx, .slice A5 m5 c5]) hO)
        have z0 := obj_cell hN 0
        have z1 := obj_cell hN 1
        have z2 := obj_cell hN 2
        simp only [List.getElem?_toArray, List.getElem?_cons_zero, List.getElem?_cons_succ, List.setIfInBounds_toArray, List.set_cons_succ, List.set_cons_zero] at z0 z1 z2
        clear hS hS1 hd hv hu hda hde hrow hN hO hBw hst F e3 hm5
        unfold rfA
        go_wp2_with (refine wpList_storev' rfl 29 (.tmp 4) (.tmp 34) rfl rfl rfl HST.out ?_)
        refine bodyPost_ret (res_ct rfl _ _ (w.heap.size + 1) 29 _ (0, 0) _ rfl HOO.out Try.underlying29 rfl info29) rfl ?_
        exact ⟨_, rfl, HFIN.out⟩
end Go.Proofs.Ythcnoamgkkbkcaa
