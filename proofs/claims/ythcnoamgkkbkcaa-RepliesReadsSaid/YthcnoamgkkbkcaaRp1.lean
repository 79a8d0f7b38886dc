/- Chapter 15, replies: entries; slices.BinarySearchFunc, slices.Insert over them. -/
import Derived.Test.YthcnoamgkkbkcaaSgi
import Derived.Test.YthcnoamgkkbkcaaSto
import Derived.Test.YthcnoamgkkbkcaaMp1
namespace Go.Proofs.Ythcnoamgkkbkcaa
open Go.RowKit

/-- A call that is kept. -/
structure En where
  id : Int
  busy : Bool
  rep : ByteArray
theorem inf116 : (Try.prog.info? 116).map (fun i => (i.zero, i.size, i.bytes)) = some (some (.agg #[.int .i64 0, .bool false, .string ⟨#[]⟩]), 3, 32) := by kernel_rfl
theorem info116 : (Try.prog.info? 116).map (·.size) = some 3 := by kernel_rfl
def eC (k : En) : List Value := [.int .i64 k.id, .bool k.busy, .string k.rep]
/-- Rows of entries. -/
def kE : EK Try.prog En where
  cs := eC
  sz := 3
  e := 116
  t := 117
  by_ := 32
  len _ := rfl
  one a u h := by
    simp only [eC, List.mem_cons, List.not_mem_nil, or_false] at h
    rcases h with rfl | rfl | rfl <;> rfl
  pos := by decide
  und := Try.underlying117
  inf := ek_inf inf116 rfl
  small := by decide
/-- In order. -/
def Rs (l : List En) : Prop := l.Pairwise fun a b => a.id < b.id
/-- How many stand ahead of a number. -/
def ahd (l : List En) (id : Int) : Nat := (l.filter fun e => decide (e.id < id)).length
theorem ahd_le (l : List En) (id : Int) : ahd l id ≤ l.length := List.length_filter_le _ _
theorem Rs.le {l : List En} (h : Rs l) {i j : Nat} (hi : i ≤ j) (hj : j < l.length) : (l[i]'(by omega)).id ≤ l[j].id := by
  rcases Nat.lt_or_ge i j with hp | hp
  · have := List.pairwise_iff_getElem.1 h i j (by omega) hj hp
    omega
  · obtain rfl : i = j := by omega
    exact Int.le_refl _
theorem ahd_lt {l : List En} (h : Rs l) {id : Int} {j : Nat} (hj : j < l.length) (hja : j < ahd l id) : l[j].id < id := by
  rcases Int.lt_or_le l[j].id id with hc | hc
  · exact hc
  · exfalso
    have hA : ∀ k ∈ l.drop j, ¬ decide (k.id < id) = true := fun k hk => by
      obtain ⟨i, hi, rfl⟩ := List.getElem_of_mem hk
      rw [List.length_drop] at hi
      rw [List.getElem_drop]
      have := h.le (i := j) (j := j + i) (by omega) (by omega)
      simp
      omega
    have : ahd l id ≤ j := by
      unfold ahd
      have e : l = l.take j ++ l.drop j := (List.take_append_drop j l).symm
      have e2 : (l.filter fun e => decide (e.id < id)) = (l.take j).filter fun e => decide (e.id < id) := by
        conv => lhs; rw [e]
        rw [List.filter_append, List.filter_eq_nil_iff.2 hA, List.append_nil]
      rw [e2]
      exact Nat.le_trans (List.length_filter_le _ _) (by rw [List.length_take]; omega)
    omega
theorem ahd_ge {l : List En} (h : Rs l) {id : Int} {j : Nat} (hj : j < l.length) (hja : ahd l id ≤ j) : id ≤ l[j].id := by
  rcases Int.lt_or_le l[j].id id with hc | hc
  · exfalso
    have hA : ∀ k ∈ l.take (j + 1), decide (k.id < id) = true := fun k hk => by
      obtain ⟨i, hi, rfl⟩ := List.getElem_of_mem hk
      rw [List.length_take] at hi
      rw [List.getElem_take]
      have := h.le (i := i) (j := j) (by omega) hj
      simp
      omega
    have : j + 1 ≤ ahd l id := by
      unfold ahd
      have e : l = l.take (j + 1) ++ l.drop (j + 1) := (List.take_append_drop _ l).symm
      have e2 : (l.filter fun e => decide (e.id < id)) = l.take (j + 1) ++ (l.drop (j + 1)).filter fun e => decide (e.id < id) := by
        conv => lhs; rw [e]
        rw [List.filter_append, List.filter_eq_self.2 hA]
      rw [e2, List.length_append, List.length_take]
      omega
    omega
  · exact hc
/-- Is it there? -/
def isAt (l : List En) (id : Int) : Bool := match l[ahd l id]? with
  | some e => e.id == id
  | none => false
theorem cmp_any (e : En) (id : Int) (w : World) (h1 : 0 ≤ e.id ∧ e.id ≤ 2147483647) (h2 : 0 ≤ id ∧ id ≤ 2147483647) :
    Calls Try.prog 85 #[.agg (eC e).toArray, .int .i64 id] w fun r w' => r = .returned (.int .i64 (e.id - id)) ∧ Below w.heap.size w w' := by
  obtain ⟨a, b, c⟩ := e
  unfold eC
  simp only at h1 ⊢
  have hw : IntKind.i64.wrap (a - id) = a - id := by rw [IntKind.wrap_i64]; omega
  have HB := hide ((Below.refl w.heap.size w).alloc (Nat.le_refl _) (.cells #[.int .i64 a, .bool b, .string c] 116))
  clear h1 h2
  go_enter Try.func85, Try.ntmps85
  go_wp2
  go_ret
  exact ⟨rfl, HB.out⟩
theorem cf85 (args : Array Value) (w1 : World) : (callFunc 85 args).run Try.prog w1 = .ok (.enter 85 args) w1 := by go_simp
def BsS (w : World) (l : List En) (id : Int) (n : Nat) (wr : World) (iv jv : Value) : Prop :=
  ∃ i j : Nat, iv = .int .i64 (i : Int) ∧ jv = .int .i64 (j : Int) ∧ i ≤ j ∧ j ≤ n ∧ i ≤ ahd l id ∧ ahd l id ≤ j ∧ Below w.heap.size w wr
set_option maxHeartbeats 8000000 in
set_option maxRecDepth 100000 in
theorem bsearch_any {w : World} {B : Nat} {v : Value} {l : List En} (h : kE.sg w B v l) (hs : Rs l) (hl : l.length ≤ 1048576) (id : Int) (hid : 0 ≤ id ∧ id ≤ 2147483647) (hr : ∀ e ∈ l, 0 ≤ e.id ∧ e.id ≤ 2147483647) :
    Calls Try.prog 84 #[v, .int .i64 id, .func (.func 85) #[] #[]] w fun e w' => e = .returned (.tuple #[.int .i64 (ahd l id : Nat), .bool (isAt l id)]) ∧ Below w.heap.size w w' := by
  obtain ⟨A, c, rfl, hc1, hc2⟩ := EK.sg_slice h
  obtain ⟨n, hn⟩ : ∃ n, n = l.length := ⟨_, rfl⟩
  rw [← hn] at h hc1 hl ⊢
  simp only [maxLen] at hc2
  have HN := hide hn
  have HV := hide h
  have HS := hide hs
  have HR := hide hr
  have HID := hide hid
  have hni : (n : Int) ≤ 1048576 := by omega
  have HS0 := hide (show BsS w l id n w (.int .i64 0) (.int .i64 (n : Int)) from ⟨0, n, rfl, rfl, Nat.zero_le _, Nat.le_refl _, Nat.zero_le _, by rw [hn]; exact ahd_le _ _, Below.refl _ _⟩)
  obtain ⟨ra, hra⟩ : ∃ z, z = ahd l id := ⟨_, rfl⟩
  obtain ⟨rt, hrt⟩ : ∃ z, z = isAt l id := ⟨_, rfl⟩
  rw [← hra, ← hrt]
  have HRA := hide hra
  have HRT := hide hrt
  clear h hn hs hr hid hra hrt
  go_enter Try.func84, Try.ntmps84
  go_wp2_with fail
  go_loopw [9, 10] (fun iv jv wr => BsS w l id n wr iv jv) (fun iv jv _ => (intOf jv).toNat - (intOf iv).toNat)
  case atStart => exact HS0.out
  case round =>
    obtain ⟨i, j, rfl, rfl, hij, hjn, hia, haj, hb⟩ := hrel
    have HB := hide hb
    rcases Nat.lt_or_ge i j with hlt | hge
    · obtain ⟨m, hm⟩ : ∃ m, m = (i + j) / 2 := ⟨_, rfl⟩
      have hmj : m < j := by omega
      have him : i ≤ m := by omega
      have hmn : m < n := by omega
      have hml : m < l.length := by rw [← HN.out]; exact hmn
      have hcv : ((i : Int) + (j : Int)) / 2 = (m : Int) := by omega
      obtain ⟨b, o, c', e1, -, -, -, -, hcell⟩ := EK.sg_cells (EK.sg_below HV.out hb) hml
      rw [← HN.out] at e1
      injection e1 with e1a e1b e1c
      subst e1a e1c
      have q0 := hcell 0 (by decide)
      have q1 := hcell 1 (by decide)
      have q2 := hcell 2 (by decide)
      obtain ⟨x, hx⟩ : ∃ x, x = l[m] := ⟨_, rfl⟩
      rw [← hx] at q0 q1 q2
      simp only [kE, eC, List.getElem?_cons_zero, List.getElem?_cons_succ, Nat.add_zero] at q0 q1 q2
      have hxr : 0 ≤ x.id ∧ x.id ≤ 2147483647 := by rw [hx]; exact HR.out _ (List.getElem_mem hml)
      have HC := hide (fun W => cmp_any x id W hxr HID.out)
      unfold eC at HC
      have hiji : (i : Int) < (j : Int) := by omega
      have hmni : (m : Int) < (n : Int) := by omega
      by_cases hlx : x.id < id
      · have HRES := hide (fun (W : World) (hW : Below wr.heap.size wr W) => show BsS w l id n W (.int .i64 ((m : Int) + 1)) (.int .i64 (j : Int)) from ⟨m + 1, j, rfl, rfl, hmj, hjn, by
          rcases Nat.lt_or_ge m (ahd l id) with h1 | h1
          · exact h1
          · have := ahd_ge HS.out hml h1
            rw [← hx] at this
            omega, haj, hb.trans (hW.mono hb.size)⟩)
        have hneg : x.id - id < 0 := by omega
        obtain ⟨xd, hxd⟩ : ∃ z, z = x.id - id := ⟨_, rfl⟩
        rw [← hxd] at hneg HC
        clear hcell hx hb hm hia haj hlx hxr hxd e1b
        go_wp2_with fail
        refine (HC.out _).mono ?_
        rintro e w2 ⟨rfl, hb2⟩
        have HRES2 := hide (HRES.out _ hb2)
        clear hb2
        go_wp2_with fail
        exact ⟨HRES2.out, by simp only [intOf]; omega⟩
      · have HRES := hide (fun (W : World) (hW : Below wr.heap.size wr W) => show BsS w l id n W (.int .i64 (i : Int)) (.int .i64 (m : Int)) from ⟨i, m, rfl, rfl, him, by omega, hia, by
          rcases Nat.lt_or_ge m (ahd l id) with h1 | h1
          · have := ahd_lt HS.out hml h1
            rw [← hx] at this
            omega
          · exact h1, hb.trans (hW.mono hb.size)⟩)
        have hneg : ¬ x.id - id < 0 := by omega
        obtain ⟨xd, hxd⟩ : ∃ z, z = x.id - id := ⟨_, rfl⟩
        rw [← hxd] at hneg HC
        clear hcell hx hb hm hia haj hlx hxr hxd e1b
        go_wp2_with fail
        refine (HC.out _).mono ?_
        rintro e w2 ⟨rfl, hb2⟩
        have HRES2 := hide (HRES.out _ hb2)
        clear hb2
        go_wp2_with fail
        exact ⟨HRES2.out, by simp only [intOf]; omega⟩
    · have hie : i = ahd l id := by omega
      have hje : j = i := by omega
      subst hje
      rcases Nat.lt_or_ge j n with hjn' | hjn'
      · have hml : j < l.length := by rw [← HN.out]; exact hjn'
        obtain ⟨b, o, c', e1, -, -, -, -, hcell⟩ := EK.sg_cells (EK.sg_below HV.out hb) hml
        rw [← HN.out] at e1
        injection e1 with e1a e1b e1c
        subst e1a e1c
        have q0 := hcell 0 (by decide)
        have q1 := hcell 1 (by decide)
        have q2 := hcell 2 (by decide)
        obtain ⟨x, hx⟩ : ∃ x, x = l[j] := ⟨_, rfl⟩
        rw [← hx] at q0 q1 q2
        simp only [kE, eC, List.getElem?_cons_zero, List.getElem?_cons_succ, Nat.add_zero] at q0 q1 q2
        have hxr : 0 ≤ x.id ∧ x.id ≤ 2147483647 := by rw [hx]; exact HR.out _ (List.getElem_mem hml)
        have HC := hide (fun W => cmp_any x id W hxr HID.out)
        unfold eC at HC
        have hjni : (j : Int) < (n : Int) := by omega
        have hat : isAt l id = (x.id == id) := by
          unfold isAt
          rw [← hie, List.getElem?_eq_getElem hml, ← hx]
        obtain ⟨xd, hxd⟩ : ∃ z, z = x.id - id := ⟨_, rfl⟩
        have hbe : (x.id == id) = (xd == 0) := by
          rw [hxd, Bool.eq_iff_iff, beq_iff_eq, beq_iff_eq]
          omega
        rw [← hxd] at HC
        have HRES := hide (show ra = j ∧ rt = (xd == 0) from ⟨by rw [HRA.out, ← hie], by rw [HRT.out, hat, hbe]⟩)
        clear hcell hx hb hia haj hxr hxd e1b hie hat hbe
        go_wp2_with fail
        refine (HC.out _).mono ?_
        rintro e w2 ⟨rfl, hb2⟩
        have HB2 := hide (HB.out.trans (hb2.mono HB.out.size))
        clear hb2
        go_wp2
        go_ret2
        refine ⟨?_, HB2.out⟩
        rw [HRES.out.1, HRES.out.2]
        rfl
      · have hjn3 : j = n := by omega
        have hat : isAt l id = false := by
          unfold isAt
          rw [← hie, List.getElem?_eq_none (by rw [← HN.out]; omega)]
        have HRES := hide (show ra = j ∧ rt = false from ⟨by rw [HRA.out, ← hie], by rw [HRT.out, hat]⟩)
        clear hb hia haj hie hat hge hjn'
        subst hjn3
        go_wp2
        go_ret2
        refine ⟨?_, HB.out⟩
        rw [HRES.out.1, HRES.out.2]
        rfl
set_option maxHeartbeats 8000000 in
set_option maxRecDepth 100000 in
theorem insert_any {w : World} {B : Nat} {v : Value} {l : List En} (h : kE.sg w B v l) (hl : l.length ≤ 1048576) (hB : B ≤ w.heap.size) {i : Nat} (hi : i ≤ l.length) {q : En} {vb : Nat} (hv : w.heap[vb]? = some (.cells (eC q).toArray 116 (0, 0))) (hne : v.ownBlock ≠ some vb) :
    Calls Try.prog 57 #[v, .int .i64 (i : Int), .slice (some ⟨vb, 0, none⟩) 1 1] w fun e w' => ∃ v', e = .returned v' ∧ kE.sg w' B v' (l.take i ++ q :: l.drop i) ∧ Fr (fun j => v.ownBlock = some j) w w' ∧ (v'.ownBlock = v.ownBlock ∨ ∃ k, v'.ownBlock = some k ∧ w.heap.size ≤ k) := by
  have hrd : kE.rd w (.slice (some ⟨vb, 0, none⟩) 1 1) [q] := EK.rd_one (K := kE) q hv
  obtain ⟨n, hn⟩ : ∃ n, n = l.length := ⟨_, rfl⟩
  rw [← hn] at hl hi
  have HN := hide hn
  obtain ⟨c, hvc, hnc, hcm⟩ : ∃ c, (∃ A, v = .slice A n c) ∧ n ≤ c ∧ c ≤ maxLen := by
    obtain ⟨A, c, e, h1, h2⟩ := EK.sg_slice h
    exact ⟨c, ⟨A, by rw [hn]; exact e⟩, by omega, h2⟩
  simp only [maxLen] at hcm
  obtain ⟨A, e⟩ := hvc
  by_cases hin : i = n
  · -- at the end
    obtain ⟨v', w', a1, a2, a3, a4⟩ := EK.sg_app h hrd (by omega) hB 117
    subst e
    have HAPP : Hid ((Builtin.append_ #[117, 117] 117 #[.slice A n c, .slice (some ⟨vb, 0, none⟩) 1 1]).run Try.prog w = .ok v' w') := hide a1
    have HRES := hide (show kE.sg w' B v' (l.take i ++ q :: l.drop i) ∧ Fr (fun j => (Value.slice A n c).ownBlock = some j) w w' ∧ (v'.ownBlock = (Value.slice A n c).ownBlock ∨ ∃ k, v'.ownBlock = some k ∧ w.heap.size ≤ k) from ⟨by rw [hin, hn, List.take_length, List.drop_length]; exact a2, a3, a4⟩)
    have hcut : ∃ u, (Instr.sliceAt 117 (.slice A n c) (some (.int .i64 (i : Int))) none none).run Try.prog w = .ok u w := by
      rcases h with ⟨e1, e2⟩ | ⟨b, o, c', cur, e1, -⟩
      · cases e1
        have hn0 : i = 0 := by omega
        rw [hn0]
        exact ⟨.slice none 0 0, (EK.part (K := kE) (EK.row_nil w B) (Nat.le_refl 0) (Nat.le_refl 0) (some (.int .i64 ((0 : Nat) : Int))) none (.inr rfl) (.inl ⟨rfl, rfl⟩)).1⟩
      · rw [← hn] at e1
        injection e1 with ea eb ec
        subst ea
        have e3 : i ≤ n := hi
        have e4 : n ≤ c := hnc
        obtain ⟨i0, z0, hi0, hz0, hz1, hz2, hz3⟩ := kE.inf
        by_cases hce : c = i
        · exact ⟨_, by simp [Instr.sliceAt, Instr.slice, Instr.sliceBounds, Instr.sliceBound, asIntOf, sizeOf, typeInfo, show Try.prog.info? 116 = some i0 from hi0, hce, hin]; rfl⟩
        · exact ⟨_, kE.run_cut w e3 e4 (by omega) (some (.int .i64 (i : Int))) none (.inr rfl) (.inl ⟨rfl, rfl⟩)⟩
    obtain ⟨u, hu⟩ := hcut
    have HCUT := hide hu
    have hin' : (i : Int) = (n : Int) := by omega
    rw [hin'] at HCUT ⊢
    clear h hrd hn a1 a2 a3 a4 hv hne hu hin' hin hi
    go_enter Try.func57, Try.ntmps57
    go_wp2_with (first | (refine wpList_sliceN (u := u) rfl 117 (.tmp 10) (some (.tmp 11)) none rfl rfl rfl rfl ?_ ?_; exact HCUT.out) | (refine wpList_append_run (v' := v') (w' := w') rfl (.tmp 23) (.tmp 24) 117 117 rfl rfl rfl ?_ ?_; exact HAPP.out))
    go_ret
    exact ⟨v', rfl, HRES.out⟩
  have hil : i < l.length := by omega
  obtain ⟨b, o, rfl⟩ : ∃ b o, A = some ⟨b, o, none⟩ := by
    rcases h with ⟨_, e2⟩ | ⟨b, o, c', cur, e1, -⟩
    · rw [e2] at hil
      simp at hil
    · rw [e] at e1
      injection e1 with ea eb ec
      exact ⟨b, o, ea⟩
  subst e
  have hbv : b ≠ vb := fun e => hne (by rw [← e]; rfl)
  have hR1 : ∀ W : World, (Instr.sliceAt 117 (.slice (some ⟨b, o, none⟩) n c) (some (.int .i64 (i : Int))) none none).run Try.prog W = .ok (.slice (some ⟨b, o + i * 3, none⟩) (n - i) (c - i)) W := fun W => kE.run_cut W hi hnc (by omega) (some (.int .i64 (i : Int))) none (.inr rfl) (.inl ⟨rfl, rfl⟩)
  have HR1 := hide hR1
  by_cases hroom : n + 1 ≤ c
  · -- in place
    have hsd : kE.sg w.drew B (.slice (some ⟨b, o, none⟩) n c) l := EK.sg_below h (Below.refl _ _).drew
    obtain ⟨w1, w2, r1, r2, hsg, hf⟩ := EK.ins_room hsd hil (by rw [← hn]; exact hroom) (q := q) (show w.drew.heap[vb]? = _ from hv) (Ne.symm hbv) 3
    rw [← hn] at r1 r2 hsg
    have HR2 := hide (show (Instr.sliceAt 117 (.slice (some ⟨b, o, none⟩) n c) none (some (.int .i64 ((n : Int) + 1))) none).run Try.prog w = .ok (.slice (some ⟨b, o, none⟩) (n + 1) c) w from by
      have := kE.run_cut (n := n) (b := b) (o := o) w (Nat.zero_le (n + 1)) hroom (by omega) none (some (.int .i64 ((n + 1 : Nat) : Int))) (.inl ⟨rfl, rfl⟩) (.inr rfl)
      rw [Nat.zero_mul, Nat.add_zero, Nat.sub_zero, Nat.sub_zero] at this
      exact this)
    have HR3 := hide (fun W : World => show (Instr.sliceAt 117 (.slice (some ⟨b, o, none⟩) (n + 1) c) (some (.int .i64 ((i : Int) + 1))) none none).run Try.prog W = .ok (.slice (some ⟨b, o + (i + 1) * 3, none⟩) (n - i) (c - (i + 1))) W from by
      have := kE.run_cut (n := n + 1) (b := b) (o := o) W (lo := i + 1) (hi := n + 1) (by omega) hroom (by omega) (some (.int .i64 ((i + 1 : Nat) : Int))) none (.inr rfl) (.inl ⟨rfl, rfl⟩)
      rw [show n + 1 - (i + 1) = n - i by omega] at this
      exact this)
    have HR4 := hide (fun W : World => show (Instr.sliceAt 117 (.slice (some ⟨b, o, none⟩) (n + 1) c) (some (.int .i64 (i : Int))) none none).run Try.prog W = .ok (.slice (some ⟨b, o + i * 3, none⟩) (n + 1 - i) (c - i)) W from kE.run_cut (n := n + 1) (b := b) (o := o) W (by omega) hroom (by omega) (some (.int .i64 (i : Int))) none (.inr rfl) (.inl ⟨rfl, rfl⟩))
    have hOV : (callFunc 86 #[.slice (some ⟨vb, 0, none⟩) 1 1, .slice (some ⟨b, o + (i + 1) * 3, none⟩) (n - i) (c - (i + 1))]).run Try.prog w = .ok (.value (.bool false)) w := by
      obtain ⟨cur, g3, g6⟩ : ∃ cur, w.heap[b]? = some (.cells cur 116 (0, 0)) ∧ cur.size = o + c * 3 := by
        rcases h with ⟨e1, _⟩ | ⟨b', o', c', cur, e1, g2, g3, g4, g5, g6, g7⟩
        · cases e1
        cases e1
        exact ⟨cur, g3, g6⟩
      rw [run_callFunc_extern Try.func86 (by kernel_rfl) (by kernel_rfl) (by kernel_rfl) (e := Extern.SlicesOverlaps.overlaps #[117, 117] #[4]) (by kernel_rfl),
        Lib.run_overlaps_apart w 117 4 116 Try.underlying117 3 Try.sizeOf116 ⟨vb, 0, none⟩ ⟨b, o + (i + 1) * 3, none⟩ 1 1 (n - i) (c - (i + 1)) (Ne.symm hbv) 116 116 3 cur.size (by simp [World.shape?, hv, eC]) (by simp [World.shape?, g3]) (by
          rw [g6]
          omega) (obj_frozen hv _) (obj_frozen hv _)]
      rfl
    have HOV := hide hOV
    have HC1 : Hid ((Builtin.copy_ #[117, 117] 3 #[.slice (some ⟨b, o + (i + 1) * 3, none⟩) (n - i) (c - (i + 1)), .slice (some ⟨b, o + i * 3, none⟩) (n + 1 - i) (c - i)]).run Try.prog w.drew = .ok (goInt ((n - i : Nat) : Int)) w1) := hide r1
    have HC2 : Hid ((Builtin.copy_ #[117, 117] 3 #[.slice (some ⟨b, o + i * 3, none⟩) (n + 1 - i) (c - i), .slice (some ⟨vb, 0, none⟩) 1 1]).run Try.prog w1 = .ok (goInt 1) w2) := hide r2
    have HRES := hide (show kE.sg w2 B (.slice (some ⟨b, o, none⟩) (n + 1) c) (l.take i ++ q :: l.drop i) ∧ Fr (fun j => (Value.slice (some ⟨b, o, none⟩) n c).ownBlock = some j) w w2 from ⟨hsg, ⟨hf.os, hf.tape, hf.output, hf.size, fun k hk hn => hf.block k hk (fun e => hn (by rw [e]; rfl))⟩⟩)
    have hni : ¬ (i : Int) = (n : Int) := by omega
    have hni' : ((i : Int) == (n : Int)) = false := by simpa using hni
    have hci : ¬ (c : Int) < (n : Int) + 1 := by omega
    have hin2 : i < n := by omega
    have hw1 : IntKind.i64.wrap ((i : Int) + 1) = (i : Int) + 1 := by rw [IntKind.wrap_i64]; omega
    have hw2 : wrap64 ((i : Int) + 1) = (i : Int) + 1 := by unfold wrap64; omega
    clear h hrd hn hv hne hsd r1 r2 hsg hf hR1 hOV hil hin hi hnc
    go_enter Try.func57, Try.ntmps57
    go_wp2_with (first | (refine wpList_sliceN (u := .slice (some ⟨b, o + i * 3, none⟩) (n - i) (c - i)) rfl 117 (.tmp 10) (some (.tmp 11)) none rfl rfl rfl rfl ?_ ?_; exact HR1.out _) | (refine wpList_sliceN (u := .slice (some ⟨b, o, none⟩) (n + 1) c) rfl 117 (.tmp 56) none (some (.tmp 59)) rfl rfl rfl rfl ?_ ?_; exact HR2.out) | (refine wpList_sliceN (u := .slice (some ⟨b, o + (i + 1) * 3, none⟩) (n - i) (c - (i + 1))) rfl 117 (.tmp 62) (some (.tmp 65)) none rfl rfl rfl rfl ?_ ?_; exact HR3.out _))
    rw [HOV.out]
    go_wp2_with fail
    refine wp_stl 8 (by kernel_rfl) (by kernel_rfl) ?_
    simp only [List.take_succ_cons, List.take_zero, List.drop_succ_cons, List.drop_zero]
    repeat (first | (refine wpStill_slice (u := .slice (some ⟨b, o + (i + 1) * 3, none⟩) (n - i) (c - (i + 1))) (v := .slice (some ⟨b, o, none⟩) (n + 1) c) (l' := some (.int .i64 ((i : Int) + 1))) (h' := none) rfl 117 (.tmp 69) (some (.tmp 72)) none rfl rfl rfl rfl (HR3.out _) ?_) | (refine wpStill_slice (u := .slice (some ⟨b, o + i * 3, none⟩) (n + 1 - i) (c - i)) (v := .slice (some ⟨b, o, none⟩) (n + 1) c) (l' := some (.int .i64 (i : Int))) (h' := none) rfl 117 (.tmp 74) (some (.tmp 75)) none rfl rfl rfl rfl (HR4.out _) ?_) | still_step)
    refine wpStill_nil ?_
    go_wp2_with (first | (refine wpList_copyN (v' := goInt ((n - i : Nat) : Int)) (w' := w1) rfl (.tmp 73) (.tmp 76) 117 117 rfl rfl rfl ?_ ?_; exact HC1.out) | (refine wpList_sliceN (u := .slice (some ⟨b, o + i * 3, none⟩) (n + 1 - i) (c - i)) rfl 117 (.tmp 78) (some (.tmp 79)) none rfl rfl rfl rfl ?_ ?_; exact HR4.out _) | (refine wpList_copyN (v' := goInt 1) (w' := w2) rfl (.tmp 80) (.tmp 81) 117 117 rfl rfl rfl ?_ ?_; exact HC2.out))
    go_ret
    exact ⟨_, rfl, HRES.out.1, HRES.out.2, .inl rfl⟩
  · -- a new row
    obtain ⟨C, w1, w2, w3, hC1, hC2, r0, r2, r3, hsg, hbw⟩ := EK.ins_grow h hB hil (by rw [← hn]; exact hroom) (by omega) (q := q) hv Try.underlying3 117 3
    rw [← hn] at hC1 r0 r2 r3 hsg
    simp only [maxLen] at hC2
    have HR2 := hide (show (Instr.sliceAt 117 (.slice (some ⟨b, o, none⟩) n c) none (some (.int .i64 (i : Int))) none).run Try.prog w = .ok (.slice (some ⟨b, o, none⟩) i c) w from by
      have := kE.run_cut (n := n) (c := c) (b := b) (o := o) w (Nat.zero_le i) (by omega) (by omega) none (some (.int .i64 (i : Int))) (.inl ⟨rfl, rfl⟩) (.inr rfl)
      rw [Nat.zero_mul, Nat.add_zero, Nat.sub_zero, Nat.sub_zero] at this
      exact this)
    have HR3 := hide (fun W : World => show (Instr.sliceAt 117 (.slice (some ⟨w.heap.size, 0, none⟩) (n + 1) C) (some (.int .i64 (i : Int))) none none).run Try.prog W = .ok (.slice (some ⟨w.heap.size, i * 3, none⟩) (n + 1 - i) (C - i)) W from by
      have := kE.run_cut (n := n + 1) (b := w.heap.size) (o := 0) W (lo := i) (hi := n + 1) (by omega) hC1 (by omega) (some (.int .i64 (i : Int))) none (.inr rfl) (.inl ⟨rfl, rfl⟩)
      rw [Nat.zero_add] at this
      exact this)
    have HR4 := hide (fun W : World => show (Instr.sliceAt 117 (.slice (some ⟨w.heap.size, 0, none⟩) (n + 1) C) (some (.int .i64 ((i : Int) + 1))) none none).run Try.prog W = .ok (.slice (some ⟨w.heap.size, (i + 1) * 3, none⟩) (n - i) (C - (i + 1))) W from by
      have := kE.run_cut (n := n + 1) (b := w.heap.size) (o := 0) W (lo := i + 1) (hi := n + 1) (by omega) hC1 (by omega) (some (.int .i64 ((i + 1 : Nat) : Int))) none (.inr rfl) (.inl ⟨rfl, rfl⟩)
      rw [Nat.zero_add, show n + 1 - (i + 1) = n - i by omega] at this
      exact this)
    have hk : ((n + 1 - i : Nat) : Int) = (n : Int) + 1 - (i : Int) := by omega
    rw [hk] at r0
    have HC0 : Hid ((Builtin.append_ #[117, 3] 117 #[.slice (some ⟨b, o, none⟩) i c, .int .i64 ((n : Int) + 1 - (i : Int))]).run Try.prog w = .ok (.slice (some ⟨w.heap.size, 0, none⟩) (n + 1) C) w1) := hide r0
    have HC1 : Hid ((Builtin.copy_ #[117, 117] 3 #[.slice (some ⟨w.heap.size, i * 3, none⟩) (n + 1 - i) (C - i), .slice (some ⟨vb, 0, none⟩) 1 1]).run Try.prog w1 = .ok (goInt 1) w2) := hide r2
    have HC2 : Hid ((Builtin.copy_ #[117, 117] 3 #[.slice (some ⟨w.heap.size, (i + 1) * 3, none⟩) (n - i) (C - (i + 1)), .slice (some ⟨b, o + i * 3, none⟩) (n - i) (c - i)]).run Try.prog w2.drew = .ok (goInt ((n - i : Nat) : Int)) w3) := hide r3
    have HRES := hide (show kE.sg w3 B (.slice (some ⟨w.heap.size, 0, none⟩) (n + 1) C) (l.take i ++ q :: l.drop i) ∧ Fr (fun j => (Value.slice (some ⟨b, o, none⟩) n c).ownBlock = some j) w w3 from ⟨hsg, Fr.of_below hbw⟩)
    have hni : ¬ (i : Int) = (n : Int) := by omega
    have hni' : ((i : Int) == (n : Int)) = false := by simpa using hni
    have hci : (c : Int) < (n : Int) + 1 := by omega
    have hin2 : i < n := by omega
    have hw1 : IntKind.i64.wrap ((i : Int) + 1) = (i : Int) + 1 := by rw [IntKind.wrap_i64]; omega
    have hw2 : wrap64 ((i : Int) + 1) = (i : Int) + 1 := by unfold wrap64; omega
    clear h hrd hn hv hne r0 r2 r3 hsg hR1 hil hin hi hnc hbw hk
    go_enter Try.func57, Try.ntmps57
    go_wp2_with (first | (refine wpList_sliceN (u := .slice (some ⟨b, o + i * 3, none⟩) (n - i) (c - i)) rfl 117 (.tmp 10) (some (.tmp 11)) none rfl rfl rfl rfl ?_ ?_; exact HR1.out _) | (refine wpList_sliceN (u := .slice (some ⟨b, o, none⟩) i c) rfl 117 (.tmp 32) none (some (.tmp 33)) rfl rfl rfl rfl ?_ ?_; exact HR2.out) | (refine wpList_append_run (v' := .slice (some ⟨w.heap.size, 0, none⟩) (n + 1) C) (w' := w1) rfl (.tmp 34) (.tmp 39) 117 3 rfl rfl rfl ?_ ?_; exact HC0.out) | (refine wpList_sliceN (u := .slice (some ⟨w.heap.size, i * 3, none⟩) (n + 1 - i) (C - i)) rfl 117 (.tmp 41) (some (.tmp 42)) none rfl rfl rfl rfl ?_ ?_; exact HR3.out _) | (refine wpList_copyN (v' := goInt 1) (w' := w2) rfl (.tmp 43) (.tmp 44) 117 117 rfl rfl rfl ?_ ?_; exact HC1.out))
    refine wp_stl 8 (by kernel_rfl) (by kernel_rfl) ?_
    simp only [List.take_succ_cons, List.take_zero, List.drop_succ_cons, List.drop_zero]
    repeat (first | (refine wpStill_slice (u := .slice (some ⟨w.heap.size, (i + 1) * 3, none⟩) (n - i) (C - (i + 1))) (v := .slice (some ⟨w.heap.size, 0, none⟩) (n + 1) C) (l' := some (.int .i64 ((i : Int) + 1))) (h' := none) rfl 117 (.tmp 46) (some (.tmp 49)) none rfl rfl rfl rfl (HR4.out _) ?_) | (refine wpStill_slice (u := .slice (some ⟨b, o + i * 3, none⟩) (n - i) (c - i)) (v := .slice (some ⟨b, o, none⟩) n c) (l' := some (.int .i64 (i : Int))) (h' := none) rfl 117 (.tmp 51) (some (.tmp 52)) none rfl rfl rfl rfl (HR1.out _) ?_) | still_step)
    refine wpStill_nil ?_
    go_wp2_with (refine wpList_copyN (v' := goInt ((n - i : Nat) : Int)) (w' := w3) rfl (.tmp 50) (.tmp 53) 117 117 rfl rfl rfl ?_ ?_; exact HC2.out)
    go_ret
    exact ⟨_, rfl, HRES.out.1, HRES.out.2, .inr ⟨_, rfl, Nat.le_refl _⟩⟩
end Go.Proofs.Ythcnoamgkkbkcaa
