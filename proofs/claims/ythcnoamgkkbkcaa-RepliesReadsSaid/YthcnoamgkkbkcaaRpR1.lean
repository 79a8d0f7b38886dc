/- Chapter 15, replies: the reference: what it holds; may, find, New, Ids. -/
import Derived.Test.YthcnoamgkkbkcaaRpB
namespace Go.Proofs.Ythcnoamgkkbkcaa
open Go.RowKit

theorem inf113 : (Try.prog.info? 113).map (fun i => (i.zero, i.size, i.bytes)) = some (some (.agg #[.int .i64 0, .bool false, .string ⟨#[]⟩]), 3, 32) := by kernel_rfl
theorem info113 : (Try.prog.info? 113).map (·.size) = some 3 := by kernel_rfl
theorem info68s : (Try.prog.info? 68).map (·.size) = some 65 := by kernel_rfl
/-- Rows of the reference's calls. -/
def kQ : EK Try.prog En where
  cs := eC
  sz := 3
  e := 113
  t := 65
  by_ := 32
  len _ := rfl
  one a u h := by
    simp only [eC, List.mem_cons, List.not_mem_nil, or_false] at h
    rcases h with rfl | rfl | rfl <;> rfl
  pos := by decide
  und := Try.underlying65
  inf := ek_inf inf113 rfl
  small := by decide
/-- The reference's calls, as a value. -/
structure QR (w : World) (B : Nat) (C : Array Value) (S : RS) : Prop where
  sz : C.size = 65
  rm : C[0]? = some (.int .i64 S.room)
  L : ∀ c : Nat, c < 64 → ∃ v, C[1 + c]? = some v ∧ kQ.sg w B v (S.L (c : Int))
section
variable {w w' : World} {B : Nat} {C : Array Value} {S : RS}
theorem QR.below (h : QR w B C S) (hb : Below w.heap.size w w') : QR w' B C S :=
  ⟨h.sz, h.rm, fun c hc => by
    obtain ⟨v, h1, h2⟩ := h.L c hc
    exact ⟨v, h1, EK.sg_below h2 hb⟩⟩
theorem QR.fr {F : Nat → Prop} (h : QR w B C S) (hf : Fr F w w') (hF : ∀ j cs, w.heap[j]? = some (.cells cs 113 (0, 0)) → B ≤ j → ¬ F j) : QR w' B C S :=
  ⟨h.sz, h.rm, fun c hc => by
    obtain ⟨v, h1, h2⟩ := h.L c hc
    exact ⟨v, h1, EK.sg_fr h2 hf (fun k e => by
      obtain ⟨b1, -, cs, b2⟩ := EK.sg_typed h2 e
      exact hF k cs b2 b1)⟩⟩
theorem QR.base {B' : Nat} (h : QR w B C S) (hB : B' ≤ B) : QR w B' C S :=
  ⟨h.sz, h.rm, fun c hc => by
    obtain ⟨v, h1, h2⟩ := h.L c hc
    exact ⟨v, h1, EK.sg_base h2 hB⟩⟩
theorem QR.one (h : QR w B C S) : C.all (·.oneCell') = true := by
  refine Array.all_eq_true.2 fun i hi => ?_
  rw [h.sz] at hi
  rcases Nat.eq_zero_or_pos i with rfl | h0
  · have := h.rm
    rw [Array.getElem?_eq_getElem (by rw [h.sz]; omega)] at this
    rw [Option.some.inj this]
    rfl
  · obtain ⟨v, h1, h2⟩ := h.L (i - 1) (by omega)
    rw [show 1 + (i - 1) = i by omega, Array.getElem?_eq_getElem (by rw [h.sz]; omega)] at h1
    obtain ⟨A, c, e, -⟩ := EK.sg_slice h2
    rw [Option.some.inj h1, e]
    rfl
theorem QR.set (h : QR w B C S) {c : Nat} (hc : c < 64) {v : Value} {l : List En} (hv : kQ.sg w B v l) : QR w B (C.setIfInBounds (1 + c) v) ⟨S.room, setL S.L (c : Int) l⟩ := by
  have hsz := h.sz
  refine ⟨by rw [Array.size_setIfInBounds, hsz], ?_, fun d hd => ?_⟩
  · rw [Array.getElem?_setIfInBounds_ne (by omega)]
    exact h.rm
  · by_cases hdc : d = c
    · subst hdc
      refine ⟨v, by rw [Array.getElem?_setIfInBounds_self, if_pos (by omega)], ?_⟩
      show kQ.sg w B v (setL S.L d l d)
      rw [setL_same]
      exact hv
    · obtain ⟨u, h1, h2⟩ := h.L d hd
      refine ⟨u, by rw [Array.getElem?_setIfInBounds_ne (by omega)]; exact h1, ?_⟩
      show kQ.sg w B u (setL S.L c l d)
      rw [setL_other _ _ (by omega)]
      exact h2
end
theorem zero68 : (Value.int .i64 0 :: List.replicate 64 (.slice none 0 0)).toArray = Try.zeroCells68 := by kernel_rfl
theorem qr_zero (w : World) (B : Nat) : QR w B Try.zeroCells68 ⟨0, fun _ => []⟩ := by
  rw [← zero68]
  refine ⟨by simp, rfl, fun c hc => ⟨.slice none 0 0, ?_, EK.sg_nil _ _⟩⟩
  rw [List.getElem?_toArray, show 1 + c = c + 1 by omega, List.getElem?_cons_succ, List.getElem?_replicate, if_pos hc]
theorem qr_room (room : Int) (w : World) (B : Nat) : QR w B (Try.zeroCells68.setIfInBounds 0 (.int .i64 room)) ⟨room, fun _ => []⟩ := by
  have h := qr_zero w B
  refine ⟨by rw [Array.size_setIfInBounds, h.sz], ?_, fun c hc => ?_⟩
  · rw [Array.getElem?_setIfInBounds_self, if_pos (by rw [h.sz]; omega)]
  · rw [Array.getElem?_setIfInBounds_ne (by omega)]
    exact h.L c hc
/-- A block that holds the reference's calls. -/
theorem load68 {w W : World} {B : Nat} {C : Array Value} {S : RS} (h : QR w B C S) {g : Nat} (hg : W.heap[g]? = some (.cells C 68 (0, 0))) : (Instr.loadAt 68 (.pointer (some ⟨g, 0, none⟩))).run Try.prog W = .ok (.agg C) W := by
  simp only [Instr.loadAt, Instr.sureAddr, Sem.run_bind, Sem.run_pure, Result.andThen_ok]
  exact run_loadVar_row W g 68 68 C (0, 0) _ hg Try.underlying68 rfl (by rw [h.sz]; exact info68s)
theorem store68 {w W : World} {B : Nat} {C C' : Array Value} {S : RS} (h : QR w B C' S) (hs : C.size = 65) {g : Nat} (hg : W.heap[g]? = some (.cells C 68 (0, 0))) : (Instr.storeAt 68 (.pointer (some ⟨g, 0, none⟩)) (.agg C')).run Try.prog W = .ok () (W.setRow g C') :=
  store_whole hg (by rw [h.sz]; exact info68s) (by rw [hs, h.sz]) h.one
theorem mayQ_any (c id : Int) (w : World) : Calls Try.prog 53 #[.int .i64 c, .int .i64 id] w fun e w' => e = .returned (.bool (decide (mayR c id))) ∧ w = w' := by
  by_cases h1 : 0 ≤ c
  · by_cases h2 : c < 64
    · by_cases h3 : 0 ≤ id
      · by_cases h4 : id < 2147483648
        · rw [decide_eq_true (show mayR c id from ⟨h1, h2, h3, h4⟩)]
          go_enter Try.func53, Try.ntmps53
          go_wp2
          go_ret
          exact ⟨rfl, rfl⟩
        · rw [decide_eq_false (show ¬ mayR c id from fun h => h4 h.2.2.2)]
          go_enter Try.func53, Try.ntmps53
          go_wp2
          go_ret
          exact ⟨rfl, rfl⟩
      · rw [decide_eq_false (show ¬ mayR c id from fun h => h3 h.2.2.1)]
        go_enter Try.func53, Try.ntmps53
        go_wp2
        go_ret
        exact ⟨rfl, rfl⟩
    · rw [decide_eq_false (show ¬ mayR c id from fun h => h2 h.2.1)]
      go_enter Try.func53, Try.ntmps53
      go_wp2
      go_ret
      exact ⟨rfl, rfl⟩
  · rw [decide_eq_false (show ¬ mayR c id from fun h => h1 h.1)]
    go_enter Try.func53, Try.ntmps53
    go_wp2
    go_ret
    exact ⟨rfl, rfl⟩
def FqS (l : List En) (id : Int) (iv : Value) : Prop := ∃ i : Nat, iv = .int .i64 (i : Int) ∧ i ≤ ahd l id
set_option maxHeartbeats 8000000 in
set_option maxRecDepth 100000 in
theorem findQ_any {w : World} {B : Nat} {v : Value} {l : List En} (h : kQ.sg w B v l) (hs : Rs l) (hl : l.length ≤ 65536) (id : Int) :
    Calls Try.prog 54 #[v, .int .i64 id] w fun e w' => e = .returned (.tuple #[.int .i64 (ahd l id : Nat), .bool (isAt l id)]) ∧ Below w.heap.size w w' := by
  obtain ⟨A, c, rfl, hc1, hc2⟩ := EK.sg_slice h
  obtain ⟨n, hn⟩ : ∃ n, n = l.length := ⟨_, rfl⟩
  rw [← hn] at h hc1 hl ⊢
  simp only [maxLen] at hc2
  have HN := hide hn
  have HV := hide h
  have HRS := hide hs
  have hle := ahd_le l id
  rw [← hn] at hle
  have HS := hide (show FqS l id (.int .i64 0) from ⟨0, rfl, Nat.zero_le _⟩)
  have HLE := hide hle
  clear h hn hs hle
  go_enter Try.func54, Try.ntmps54
  go_wp2_with fail
  go_loopw [6] (fun iv wr => FqS l id iv ∧ wr = w) (fun iv _ => n - (intOf iv).toNat)
  case atStart => exact ⟨HS.out, rfl⟩
  case round =>
    obtain ⟨⟨k, rfl, hk⟩, rfl⟩ := hrel
    have hkn : k ≤ n := Nat.le_trans hk HLE.out
    rcases Nat.lt_or_ge k n with hkl | hkl
    · have hkl' : k < l.length := by have := HN.out; omega
      obtain ⟨b, o, c', e1, -, -, -, -, hcell⟩ := EK.sg_cells HV.out hkl'
      rw [← HN.out] at e1
      injection e1 with e1a e1b e1c
      subst e1a e1c
      have q0 := hcell 0 (by decide)
      obtain ⟨x, hx⟩ : ∃ x, x = l[k] := ⟨_, rfl⟩
      rw [← hx] at q0
      simp only [kQ, eC, List.getElem?_cons_zero, Nat.add_zero] at q0
      have hki : (k : Int) < (n : Int) := by omega
      by_cases hlt : x.id < id
      · have hka : k < ahd l id := Classical.not_not.1 (fun hc => by
          have := ahd_ge HRS.out (id := id) hkl' (by omega)
          rw [← hx] at this
          omega)
        have HS2 := hide (show FqS l id (.int .i64 ((k : Int) + 1)) from ⟨k + 1, rfl, hka⟩)
        clear hcell hx e1b hk
        go_wp2
        go_roundw
        case rel => exact ⟨HS2.out, trivial⟩
        case measure => simp [intOf]; omega
      · have hka : ahd l id = k := by
          have : ¬ k < ahd l id := fun hc => by
            have := ahd_lt HRS.out (id := id) hkl' hc
            rw [← hx] at this
            omega
          omega
        have hat : isAt l id = decide (x.id = id) := by
          have e2 : l[ahd l id]? = some x := by rw [hka, hx, List.getElem?_eq_getElem hkl']
          unfold isAt
          rw [e2]
          simp only
          rw [Bool.eq_iff_iff]
          simp
        have HKA := hide hka
        clear hcell hx e1b hk hka
        by_cases he : x.id = id
        · rw [decide_eq_true he] at hat
          have HAT := hide hat
          rw [he] at q0 hlt
          clear he hat
          go_wp2_with fail
          go_quiet (fail)
          go_wp2
          go_ret2
          exact ⟨by rw [HKA.out, HAT.out]; rfl, below_drewN (Below.refl _ _) _⟩
        · rw [decide_eq_false he] at hat
          have HAT := hide hat
          clear hat
          have heb : (x.id == id) = false := by simpa using he
          clear he
          go_wp2_with fail
          go_quiet (fail)
          go_wp2
          go_ret2
          exact ⟨by rw [HKA.out, HAT.out]; rfl, below_drewN (Below.refl _ _) _⟩
    · have hke : n = k := by omega
      subst hke
      have hka : ahd l id = n := by have := HLE.out; omega
      have hat : isAt l id = false := by
        unfold isAt
        rw [List.getElem?_eq_none (by have := HN.out; omega)]
      have HKA := hide hka
      have HAT := hide hat
      clear hk hka hat
      go_wp2_with fail
      go_quiet (fail)
      go_wp2
      go_ret2
      exact ⟨by rw [HKA.out, HAT.out]; rfl, below_drewN (Below.refl _ _) _⟩
set_option maxHeartbeats 4000000 in
set_option maxRecDepth 100000 in
theorem newQ_any (room : Int) (w : World) : Calls Try.prog 33 #[.int .i64 room] w fun e w' => e = .returned (.agg (Try.zeroCells68.setIfInBounds 0 (.int .i64 (min (max room 1) 16)))) ∧ Below w.heap.size w w' := by
  obtain ⟨M1, hM1⟩ : ∃ M, M = max room 1 := ⟨_, rfl⟩
  obtain ⟨M2, hM2⟩ : ∃ M, M = min M1 16 := ⟨_, rfl⟩
  have g1 := fun ts t => run_mx ts t room 1 M1 hM1
  have g2 := fun ts t => run_mn ts t M1 16 M2 hM2
  rw [← hM1, ← hM2]
  have HZ := hide (obj_new w (.cells Try.zeroCells68 68))
  have HST := hide (store68 (qr_room M2 w 0) (qr_zero w 0).sz (obj_new w (.cells Try.zeroCells68 68)))
  have HB := hide ((Below.refl w.heap.size w).alloc (Nat.le_refl _) (.cells Try.zeroCells68 68))
  clear hM1 hM2
  go_enter Try.func33, Try.ntmps33
  go_wp2_with (refine wpList_storev' rfl 68 (.tmp 2) (.tmp 6) rfl rfl rfl HST.out ?_)
  refine bodyPost_ret (res_c rfl _ _ w.heap.size 68 _ (0, 0) _ rfl (setRow_at' HZ.out) Try.underlying68 rfl (by rw [(qr_room M2 w 0).sz]; exact info68s)) rfl ?_
  exact ⟨rfl, HB.out.trans ((setRow_fr' _ _ _).below _ HB.out.size (fun j hj e => by omega))⟩
def IqS (w : World) (l : List En) (n : Nat) (wr : World) (ov iv : Value) : Prop :=
  ∃ k : Nat, iv = .int .i64 (k : Int) ∧ k ≤ n ∧ kI.row wr w.heap.size ov ((l.take k).map (·.id)) ∧ Below w.heap.size w wr
set_option maxHeartbeats 8000000 in
set_option maxRecDepth 100000 in
theorem idsQ_any {w : World} {B : Nat} {C : Array Value} {S : RS} (h : QR w B C S) (hk : ROk S) (c : Int) :
    Calls Try.prog 39 #[.agg C, .int .i64 c] w fun e w' => ∃ ov, e = .returned ov ∧ kI.row w' w.heap.size ov (rIds S c) ∧ Below w.heap.size w w' := by
  have HB0 := hide ((Below.refl w.heap.size w).alloc (Nat.le_refl _) (.cells C 68))
  by_cases hc0 : c < 0
  · have hR : rIds S c = [] := by
      unfold rIds
      rw [hk.out c (by omega)]
      rfl
    rw [hR]
    clear h hk
    go_enter Try.func39, Try.ntmps39
    go_wp2
    go_ret
    exact ⟨_, rfl, EK.row_nil _ _, HB0.out⟩
  by_cases hc1 : 64 ≤ c
  · have hR : rIds S c = [] := by
      unfold rIds
      rw [hk.out c (by omega)]
      rfl
    rw [hR]
    clear h hk
    go_enter Try.func39, Try.ntmps39
    go_wp2
    go_ret
    exact ⟨_, rfl, EK.row_nil _ _, HB0.out⟩
  obtain ⟨d, rfl⟩ : ∃ d : Nat, c = (d : Int) := ⟨c.toNat, by omega⟩
  have hd : d < 64 := by omega
  have hdi : (d : Int) < 64 := by omega
  obtain ⟨v, hv, hsg⟩ := h.L d hd
  have z1 := obj_cell (obj_new w (.cells C 68)) (1 + d)
  rw [hv] at z1
  have hlen := hk.len d
  have hroom := hk.room
  unfold rIds
  obtain ⟨l, hl⟩ : ∃ l, l = S.L (d : Int) := ⟨_, rfl⟩
  rw [← hl] at hlen hsg ⊢
  obtain ⟨A, cap, e, hc1', hc2⟩ := EK.sg_slice hsg
  rw [e] at z1 hsg
  obtain ⟨n, hn⟩ : ∃ n, n = l.length := ⟨_, rfl⟩
  rw [← hn] at z1 hsg hc1' hlen
  have HN := hide (show n = l.length ∧ n ≤ 16 from ⟨hn, by omega⟩)
  have hni : (n : Int) ≤ 16 := by omega
  simp only [maxLen] at hc2
  have HZ := hide (obj_new w (.cells C 68))
  have HC := hide (show C[1 + d]? = some (.slice A n cap) from by rw [hv, e, hn])
  have HV := hide (EK.sg_below hsg HB0.out)
  have HS := hide (show IqS w l n (w.alloc (.cells C 68)) (.slice none 0 0) (.int .i64 0) from ⟨0, rfl, Nat.zero_le _, EK.row_nil _ _, HB0.out⟩)
  clear h hk hl hlen hroom hsg e hn hv z1
  go_enter Try.func39, Try.ntmps39
  go_wp2_with fail
  go_loopw [5, 6] (fun ov iv wr => IqS w l n wr ov iv ∧ Below (w.heap.size + 1) (w.alloc (.cells C 68)) wr) (fun _ iv _ => n - (intOf iv).toNat)
  case atStart => exact ⟨HS.out, Below.refl _ _⟩
  case round =>
    obtain ⟨⟨k, rfl, hk, hro, hb⟩, hb1⟩ := hrel
    have HB := hide hb
    have HB1 := hide hb1
    have z1 := obj_cell (obj_below HZ.out (by rw [World.size_alloc]; exact hb1)) (1 + d)
    rw [HC.out] at z1
    rcases Nat.lt_or_ge k n with hkl | hkl
    · have hkl' : k < l.length := by have := HN.out.1; omega
      obtain ⟨b, o, c', e1, -, -, -, -, hcell⟩ := EK.sg_cells (EK.sg_below HV.out (by rw [World.size_alloc]; exact hb1)) hkl'
      rw [← HN.out.1] at e1
      injection e1 with e1a e1b e1c
      subst e1a e1c
      have q0 := hcell 0 (by decide)
      obtain ⟨x, hx⟩ : ∃ x, x = l[k] := ⟨_, rfl⟩
      rw [← hx] at q0
      simp only [kQ, eC, List.getElem?_cons_zero, Nat.add_zero] at q0
      obtain ⟨xid, xb, xr⟩ := x
      simp only at q0
      have hki : (k : Int) < (n : Int) := by omega
      have hal := (Below.refl wr.heap.size wr).alloc (Nat.le_refl _) (.cells #[.int .i64 xid] 3)
      have hlk' : ((l.take k).map (·.id)).length ≤ 65536 := by rw [List.length_map, List.length_take]; have := HN.out; omega
      obtain ⟨v4, w4, happ, hrow4, hf4, hbl4⟩ := EK.app (EK.row_below hro hal) (EK.rd_one (K := kI) xid (obj_new wr _)) (by simp only [List.length_singleton]; omega) (by have := hal.size; have := hb.size; omega) 54
      have HAPP := hide happ
      have HRES := hide (show IqS w l n w4 v4 (.int .i64 ((k : Int) + 1)) from ⟨k + 1, rfl, hkl, by
        rw [List.take_add_one, List.getElem?_eq_getElem hkl', List.map_append, ← hx]
        exact hrow4, (hb.trans (hal.mono hb.size)).trans (hf4.below _ (by have := hal.size; have := hb.size; omega) (fun q hq e => by
          have := (EK.row_typed (EK.row_below hro hal) e).1
          omega))⟩)
      have HB4 := hide (show Below (w.heap.size + 1) (w.alloc (.cells C 68)) w4 from (hb1.trans (hal.mono (by have := hb1.size; rw [World.size_alloc] at this; exact this))).trans (hf4.below _ (by have := hal.size; have := hb1.size; rw [World.size_alloc] at this; omega) (fun q hq e => by
          obtain ⟨a1, a2, cs, a3⟩ := EK.row_typed (EK.row_below hro hal) e
          have h7 : q ≠ w.heap.size := fun e2 => by
            have h8 := obj_below (obj_below HZ.out (by rw [World.size_alloc]; exact hb1)) hal
            rw [e2, h8] at a3
            simp only [Option.some.injEq, Obj.cells.injEq] at a3
            exact absurd a3.2.1 (by decide)
          omega)))
      clear hro hb hb1 hcell hx hal hrow4 hf4 hbl4 e1b hlk' happ hkl'
      go_wp2_with (refine wpList_append_run (v' := v4) (w' := w4) rfl (.tmp 22) (.tmp 31) 54 54 rfl rfl rfl ?_ ?_; exact HAPP.out)
      exact ⟨⟨HRES.out, HB4.out⟩, by simp only [intOf]; omega⟩
    · have hke : n = k := by omega
      subst hke
      have e1 : l.take n = l := List.take_of_length_le (by have := HN.out.1; omega)
      rw [e1] at hro
      have HRO := hide hro
      clear hro hb hb1 e1
      go_wp2
      go_ret
      exact ⟨_, rfl, HRO.out, HB.out⟩
end Go.Proofs.Ythcnoamgkkbkcaa
