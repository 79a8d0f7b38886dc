/- Chapter 15, replies: Text: one thing laid, put behind the bytes. -/
import Derived.Test.YthcnoamgkkbkcaaRp5
import Derived.Test.YthcnoamgkkbkcaaWriter
import Derived.Test.YthcnoamgkkbkcaaRp0
namespace Go.Proofs.Ythcnoamgkkbkcaa
open Go.RowKit

/-- A row of bytes stays, where blocks of other types are turned. -/
theorem OwB.fr {F : Nat → Prop} {w w' : World} {B : Nat} {v : Value} {l : List UInt8} (h : OwB w B v l) (hf : Fr F w w') (hF : ∀ j, F j → ∀ cs f, w.heap[j]? ≠ some (.cells cs 5 f)) : OwB w' B v l := by
  refine ⟨h.1, ?_⟩
  rcases h.2 with h2 | ⟨g, cap, cur, h1, h2, h3, h4⟩
  · exact .inl h2
  · exact .inr ⟨g, cap, cur, h1, h2, hf.obj h3 (fun hg => hF g hg _ _ h3), h4⟩
theorem OwB.below {w w' : World} {B : Nat} {v : Value} {l : List UInt8} (h : OwB w B v l) (hb : Below w.heap.size w w') : OwB w' B v l := h.fr (F := fun _ => False) (Fr.of_below hb) (fun _ h => h.elim)
theorem OwB.typed {w : World} {B : Nat} {v : Value} {l : List UInt8} (h : OwB w B v l) {k : Nat} (hk : v.ownBlock = some k) : B ≤ k ∧ k < w.heap.size ∧ ∃ cs, w.heap[k]? = some (.cells cs 5 (0, 0)) := by
  rcases h.2 with ⟨rfl, _⟩ | ⟨g, cap, cur, rfl, h2, h3, _⟩
  · cases hk
  · cases hk
    exact ⟨h2, obj_lt h3, cur, h3⟩
theorem app_str2 {w : World} {B : Nat} {v : Value} {l : List UInt8} (h : OwB w B v l) (s : ByteArray) (hl : l.length + s.size ≤ 140737488355328) (hB : B ≤ w.heap.size) (ty : TypeId) :
    ∃ v' w', (Builtin.append_ #[119, 9] ty #[v, .string s]).run Try.prog w = .ok v' w' ∧ OwB w' B v' (l ++ s.data.toList) ∧ Fr (fun j => v.ownBlock = some j) w w' := by
  obtain ⟨i0, hi0, hz0, hz1, hz2⟩ := info_parts info5
  obtain ⟨v', w', hrun, hown, hg, _⟩ := Lib.run_append_own_string (P := Try.prog) w B 119 9 ty 5 i0 Try.underlying119 Try.underlying9 hi0 hz0 hz1 hz2 v l.length (byteVals l) h s (by simp only [maxLen]; omega) (by omega) hB
  refine ⟨v', w', hrun, ?_, (Fr.refl _ w).grown hg (fun k hk _ => hk)⟩
  unfold OwB
  rw [byteVals_append, List.length_append, ← size_list, ← strCells_bytes]
  exact hown
/-- An entry's bytes. -/
def enB (e : En) : List UInt8 := num e.id ++ if e.busy = true then [1] else 0 :: textB e.rep.data.toList
theorem num_len (n : Int) (h0 : -9223372036854775808 ≤ n) (h1 : n ≤ 9223372036854775807) : (num n).length ≤ 10 := by
  have := numN_ten _ (zz_lt n h0 h1)
  unfold num
  exact this
set_option maxRecDepth 100000 in
theorem layE_any (e : En) (g : Nat) (w : World) (hW : Wr w g 65536 [] 0) (hid : 0 ≤ e.id ∧ e.id ≤ 2147483647) (hs : e.rep.size ≤ 4096) :
    Calls Try.prog 65 #[.agg (eC e).toArray, .pointer (some ⟨g, 0, none⟩)] w fun r w' => r = .returned (.tuple #[]) ∧ Wr w' g 65536 (enB e) 0 ∧ Fr (· = g) w w' := by
  obtain ⟨id, b, s⟩ := e
  unfold eC enB
  simp only at hid hs ⊢
  have hnl := num_len id (by omega) (by omega)
  obtain ⟨N, hN⟩ : ∃ N, N = num id := ⟨_, rfl⟩
  have hal := (Below.refl w.heap.size w).alloc (Nat.le_refl _) (.cells #[.int .i64 id, .bool b, .string s] 116)
  have oq := obj_new w (.cells #[.int .i64 id, .bool b, .string s] 116)
  have hg := hW.lt
  have HW := hide (wInt_fits g 65536 [] id _ (hW.below hal) (by simp) (by omega) (by omega) (by simp))
  rw [← hN] at HW hnl ⊢
  have HAL := hide hal
  have HOQ := hide oq
  have z0 := obj_cell oq 0
  simp only [List.getElem?_toArray, List.getElem?_cons_zero] at z0
  clear hal oq hN hW hid
  go_enter Try.func65, Try.ntmps65
  go_wp2_with fail
  refine HW.out.mono ?_
  rintro e w1 ⟨rfl, hw1, hf1⟩
  rw [List.nil_append] at hw1
  have oq1 := hf1.obj HOQ.out (by omega)
  have HOQ1 := hide oq1
  have z1 := obj_cell oq1 1
  have z2 := obj_cell oq1 2
  simp only [List.getElem?_toArray, List.getElem?_cons_zero, List.getElem?_cons_succ] at z1 z2
  have HF1 := hide ((Fr.of_below (F := (· = g)) HAL.out).trans hf1 (fun _ _ e => e))
  rcases b with _ | _
  · have HB := hide (wByte_fits g 65536 N 0 w1 hw1 (by omega) (by omega) (by omega) (by omega))
    clear hw1 hf1 oq1 z0 z2
    go_wp2_with fail
    refine HB.out.mono ?_
    rintro e w2 ⟨rfl, hw2, hf2⟩
    have oq2 := hf2.obj HOQ1.out (by omega)
    have z2 := obj_cell oq2 2
    simp only [List.getElem?_toArray, List.getElem?_cons_zero, List.getElem?_cons_succ] at z2
    have HT := hide (wText_fits g 65536 (N ++ [ub 0]) s w2 hw2 (by simp; omega) (by omega) (by simp; omega))
    have HF2 := hide (HF1.out.trans hf2 (fun _ _ e => e))
    clear hw2 hf2 oq2
    go_wp2_with fail
    refine HT.out.mono ?_
    rintro e w3 ⟨rfl, hw3, hf3⟩
    have HW3 := hide hw3
    have HF3 := hide (HF2.out.trans hf3 (fun _ _ e => e))
    clear hw3 hf3
    go_wp2
    go_end0
    refine ⟨rfl, ?_, HF3.out⟩
    have := HW3.out
    rw [List.append_assoc] at this
    exact this
  · have HB := hide (wByte_fits g 65536 N 1 w1 hw1 (by omega) (by omega) (by omega) (by omega))
    clear hw1 hf1 oq1 z0 z2
    go_wp2_with fail
    refine HB.out.mono ?_
    rintro e w2 ⟨rfl, hw2, hf2⟩
    have HW2 := hide hw2
    have HF2 := hide (HF1.out.trans hf2 (fun _ _ e => e))
    clear hw2 hf2
    go_wp2
    refine bodyPost_ret (results_none rfl _ _ _) rfl ?_
    exact ⟨rfl, HW2.out, HF2.out⟩
theorem cf61 (args : Array Value) (w1 : World) : (callFunc 61 args).run Try.prog w1 = .ok (.enter 61 args) w1 := by go_simp
theorem cf64 (args : Array Value) (w1 : World) : (callFunc 64 args).run Try.prog w1 = .ok (.enter 64 args) w1 := by go_simp
theorem cf65 (args : Array Value) (w1 : World) : (callFunc 65 args).run Try.prog w1 = .ok (.enter 65 args) w1 := by go_simp
set_option maxHeartbeats 4000000 in
set_option maxRecDepth 100000 in
theorem put61_any (r1 al : Nat) (bb B : Nat) (v : Value) (l x : List UInt8) (w : World) (hb : w.heap[bb]? = some (.cells #[v] 119 (0, 0))) (hv : OwB w B v l) (hB : B ≤ bb) (hl : l.length + x.length ≤ 16777216)
    (hF : ∀ (w1 : World) (g : Nat), Below w.heap.size w w1 → w.heap.size ≤ g → Wr w1 g 65536 [] 0 → Calls Try.prog 61 #[.pointer (some ⟨g, 0, none⟩), .pointer (some ⟨r1, 0, none⟩), .pointer (some ⟨al, 0, none⟩)] w1 fun e w' => e = .returned (.tuple #[]) ∧ Wr w' g 65536 x 0 ∧ Fr (· = g) w1 w') :
    Calls Try.prog 58 #[.func (.func 61) #[] #[.pointer (some ⟨r1, 0, none⟩), .pointer (some ⟨al, 0, none⟩)], .pointer (some ⟨bb, 0, none⟩)] w fun e w' => e = .returned (.tuple #[]) ∧ ∃ v', w'.heap[bb]? = some (.cells #[v'] 119 (0, 0)) ∧ OwB w' B v' (l ++ x) ∧ Below B w w' ∧ Fr (fun j => j = bb ∨ v.ownBlock = some j) w w' := by
  have HBB := hide hb
  have HV := hide hv
  have HF := hide hF
  have hbl := obj_lt hb
  have hcf := cf61
  clear hb hv hF
  go_enter Try.func58, Try.ntmps58
  go_wp2_with fail
  refine (newWriter_any 65536 w (by omega) (by omega)).mono ?_
  rintro e w1 ⟨rfl, hw1, hb1⟩
  have HC := hide (HF.out w1 w.heap.size hb1 (Nat.le_refl _) hw1)
  have HB1 := hide hb1
  clear hw1 hb1
  go_wp2_with fail
  refine HC.out.mono ?_
  rintro e w2 ⟨rfl, hw2, hf2⟩
  have hb2 : Below w.heap.size w w2 := HB1.out.trans (hf2.below _ HB1.out.size (fun j hj e => by omega))
  have HD := hide (wDone_ok w.heap.size 65536 x w2 hw2)
  have HB2 := hide hb2
  clear hw2 hf2 hb2
  go_wp2_with fail
  refine HD.out.mono ?_
  rintro e w3 ⟨rfl, rfl⟩
  have ho := obj_below HBB.out HB2.out
  have z0 := obj_cell ho 0
  have t0 := obj_frozen ho 0
  simp only [List.getElem?_toArray, List.getElem?_cons_zero] at z0
  obtain ⟨v4, w4, hrun, hown, hf4⟩ := app_str2 (HV.out.below HB2.out) (⟨x.toArray⟩ : ByteArray) (by rw [str_size]; omega) (by have := HB2.out.size; omega) 119
  have hx : (⟨x.toArray⟩ : ByteArray).data.toList = x := rfl
  rw [hx] at hown
  have hsz := HB2.out.size
  have ho4 := hf4.obj ho (fun e => by
    obtain ⟨-, -, cs, h7⟩ := (HV.out.below HB2.out).typed e
    rw [ho] at h7
    simp only [Option.some.injEq, Obj.cells.injEq] at h7
    exact absurd h7.2.1 (by decide))
  have hb4 : Below B w w4 := (HB2.out.mono (by omega)).trans (hf4.below B (by omega) (fun j hj e => by
    have := ((HV.out.below HB2.out).typed e).1
    omega))
  have F5 := (Fr.refl (fun i => i = bb) w4).setCell (p := ⟨bb, 0, none⟩) (fun _ => rfl) v4
  have HRES := hide (show (w4.setCell ⟨bb, 0, none⟩ v4).heap[bb]? = some (.cells #[v4] 119 (0, 0)) ∧ OwB (w4.setCell ⟨bb, 0, none⟩ v4) B v4 (l ++ x) ∧ Below B w (w4.setCell ⟨bb, 0, none⟩ v4) ∧ Fr (fun j => j = bb ∨ v.ownBlock = some j) w (w4.setCell ⟨bb, 0, none⟩ v4) from
    ⟨by simpa using obj_set ho4 0 v4, hown.fr F5 (fun j e cs f h => by
      subst e
      rw [ho4] at h
      simp only [Option.some.injEq, Obj.cells.injEq] at h
      exact absurd h.2.1 (by decide)), hb4.trans (F5.below B (by have := hb4.size; omega) (fun j hj e => by omega)), (((Fr.of_below HB2.out).trans hf4 (fun _ _ e => .inr e)).trans F5 (fun _ _ e => .inl e))⟩)
  have HAPP : Hid ((Builtin.append_ #[119, 9] 119 #[v, .string ⟨x.toArray⟩]).run Try.prog w2 = .ok v4 w4) := hide hrun
  have x0 := obj_cell ho4 0
  have tx := obj_frozen ho4 0
  simp only [List.getElem?_toArray, List.getElem?_cons_zero] at x0
  obtain ⟨A4, n4, c4, e4⟩ : ∃ A n c, v4 = .slice A n c := by
    obtain ⟨A, c, e, -⟩ := hown.rd
    exact ⟨A, _, c, e⟩
  subst e4
  clear ho hrun hown hf4 ho4 hb4 F5 hx hsz
  go_wp2_with (refine wpList_append_run (v' := .slice A4 n4 c4) (w' := w4) rfl (.tmp 15) (.tmp 16) 119 9 rfl rfl rfl ?_ ?_; exact HAPP.out)
  go_end0
  exact ⟨rfl, _, HRES.out⟩
set_option maxHeartbeats 4000000 in
set_option maxRecDepth 100000 in
theorem put64_any (cl r1 : Nat) (bb B : Nat) (v : Value) (l x : List UInt8) (w : World) (hb : w.heap[bb]? = some (.cells #[v] 119 (0, 0))) (hv : OwB w B v l) (hB : B ≤ bb) (hl : l.length + x.length ≤ 16777216)
    (hF : ∀ (w1 : World) (g : Nat), Below w.heap.size w w1 → w.heap.size ≤ g → Wr w1 g 65536 [] 0 → Calls Try.prog 64 #[.pointer (some ⟨g, 0, none⟩), .pointer (some ⟨cl, 0, none⟩), .pointer (some ⟨r1, 0, none⟩)] w1 fun e w' => e = .returned (.tuple #[]) ∧ Wr w' g 65536 x 0 ∧ Fr (· = g) w1 w') :
    Calls Try.prog 58 #[.func (.func 64) #[] #[.pointer (some ⟨cl, 0, none⟩), .pointer (some ⟨r1, 0, none⟩)], .pointer (some ⟨bb, 0, none⟩)] w fun e w' => e = .returned (.tuple #[]) ∧ ∃ v', w'.heap[bb]? = some (.cells #[v'] 119 (0, 0)) ∧ OwB w' B v' (l ++ x) ∧ Below B w w' ∧ Fr (fun j => j = bb ∨ v.ownBlock = some j) w w' := by
  have HBB := hide hb
  have HV := hide hv
  have HF := hide hF
  have hbl := obj_lt hb
  have hcf := cf64
  clear hb hv hF
  go_enter Try.func58, Try.ntmps58
  go_wp2_with fail
  refine (newWriter_any 65536 w (by omega) (by omega)).mono ?_
  rintro e w1 ⟨rfl, hw1, hb1⟩
  have HC := hide (HF.out w1 w.heap.size hb1 (Nat.le_refl _) hw1)
  have HB1 := hide hb1
  clear hw1 hb1
  go_wp2_with fail
  refine HC.out.mono ?_
  rintro e w2 ⟨rfl, hw2, hf2⟩
  have hb2 : Below w.heap.size w w2 := HB1.out.trans (hf2.below _ HB1.out.size (fun j hj e => by omega))
  have HD := hide (wDone_ok w.heap.size 65536 x w2 hw2)
  have HB2 := hide hb2
  clear hw2 hf2 hb2
  go_wp2_with fail
  refine HD.out.mono ?_
  rintro e w3 ⟨rfl, rfl⟩
  have ho := obj_below HBB.out HB2.out
  have z0 := obj_cell ho 0
  have t0 := obj_frozen ho 0
  simp only [List.getElem?_toArray, List.getElem?_cons_zero] at z0
  obtain ⟨v4, w4, hrun, hown, hf4⟩ := app_str2 (HV.out.below HB2.out) (⟨x.toArray⟩ : ByteArray) (by rw [str_size]; omega) (by have := HB2.out.size; omega) 119
  have hx : (⟨x.toArray⟩ : ByteArray).data.toList = x := rfl
  rw [hx] at hown
  have hsz := HB2.out.size
  have ho4 := hf4.obj ho (fun e => by
    obtain ⟨-, -, cs, h7⟩ := (HV.out.below HB2.out).typed e
    rw [ho] at h7
    simp only [Option.some.injEq, Obj.cells.injEq] at h7
    exact absurd h7.2.1 (by decide))
  have hb4 : Below B w w4 := (HB2.out.mono (by omega)).trans (hf4.below B (by omega) (fun j hj e => by
    have := ((HV.out.below HB2.out).typed e).1
    omega))
  have F5 := (Fr.refl (fun i => i = bb) w4).setCell (p := ⟨bb, 0, none⟩) (fun _ => rfl) v4
  have HRES := hide (show (w4.setCell ⟨bb, 0, none⟩ v4).heap[bb]? = some (.cells #[v4] 119 (0, 0)) ∧ OwB (w4.setCell ⟨bb, 0, none⟩ v4) B v4 (l ++ x) ∧ Below B w (w4.setCell ⟨bb, 0, none⟩ v4) ∧ Fr (fun j => j = bb ∨ v.ownBlock = some j) w (w4.setCell ⟨bb, 0, none⟩ v4) from
    ⟨by simpa using obj_set ho4 0 v4, hown.fr F5 (fun j e cs f h => by
      subst e
      rw [ho4] at h
      simp only [Option.some.injEq, Obj.cells.injEq] at h
      exact absurd h.2.1 (by decide)), hb4.trans (F5.below B (by have := hb4.size; omega) (fun j hj e => by omega)), (((Fr.of_below HB2.out).trans hf4 (fun _ _ e => .inr e)).trans F5 (fun _ _ e => .inl e))⟩)
  have HAPP : Hid ((Builtin.append_ #[119, 9] 119 #[v, .string ⟨x.toArray⟩]).run Try.prog w2 = .ok v4 w4) := hide hrun
  have x0 := obj_cell ho4 0
  have tx := obj_frozen ho4 0
  simp only [List.getElem?_toArray, List.getElem?_cons_zero] at x0
  obtain ⟨A4, n4, c4, e4⟩ : ∃ A n c, v4 = .slice A n c := by
    obtain ⟨A, c, e, -⟩ := hown.rd
    exact ⟨A, _, c, e⟩
  subst e4
  clear ho hrun hown hf4 ho4 hb4 F5 hx hsz
  go_wp2_with (refine wpList_append_run (v' := .slice A4 n4 c4) (w' := w4) rfl (.tmp 15) (.tmp 16) 119 9 rfl rfl rfl ?_ ?_; exact HAPP.out)
  go_end0
  exact ⟨rfl, _, HRES.out⟩
set_option maxHeartbeats 4000000 in
set_option maxRecDepth 100000 in
theorem put65_any (ec : Array Value) (bb B : Nat) (v : Value) (l x : List UInt8) (w : World) (hb : w.heap[bb]? = some (.cells #[v] 119 (0, 0))) (hv : OwB w B v l) (hB : B ≤ bb) (hl : l.length + x.length ≤ 16777216)
    (hF : ∀ (w1 : World) (g : Nat), Below w.heap.size w w1 → w.heap.size ≤ g → Wr w1 g 65536 [] 0 → Calls Try.prog 65 #[.agg ec, .pointer (some ⟨g, 0, none⟩)] w1 fun e w' => e = .returned (.tuple #[]) ∧ Wr w' g 65536 x 0 ∧ Fr (· = g) w1 w') :
    Calls Try.prog 58 #[.func (.func 65) #[.agg ec] #[], .pointer (some ⟨bb, 0, none⟩)] w fun e w' => e = .returned (.tuple #[]) ∧ ∃ v', w'.heap[bb]? = some (.cells #[v'] 119 (0, 0)) ∧ OwB w' B v' (l ++ x) ∧ Below B w w' ∧ Fr (fun j => j = bb ∨ v.ownBlock = some j) w w' := by
  have HBB := hide hb
  have HV := hide hv
  have HF := hide hF
  have hbl := obj_lt hb
  have hcf := cf65
  clear hb hv hF
  go_enter Try.func58, Try.ntmps58
  go_wp2_with fail
  refine (newWriter_any 65536 w (by omega) (by omega)).mono ?_
  rintro e w1 ⟨rfl, hw1, hb1⟩
  have HC := hide (HF.out w1 w.heap.size hb1 (Nat.le_refl _) hw1)
  have HB1 := hide hb1
  clear hw1 hb1
  go_wp2_with fail
  refine HC.out.mono ?_
  rintro e w2 ⟨rfl, hw2, hf2⟩
  have hb2 : Below w.heap.size w w2 := HB1.out.trans (hf2.below _ HB1.out.size (fun j hj e => by omega))
  have HD := hide (wDone_ok w.heap.size 65536 x w2 hw2)
  have HB2 := hide hb2
  clear hw2 hf2 hb2
  go_wp2_with fail
  refine HD.out.mono ?_
  rintro e w3 ⟨rfl, rfl⟩
  have ho := obj_below HBB.out HB2.out
  have z0 := obj_cell ho 0
  have t0 := obj_frozen ho 0
  simp only [List.getElem?_toArray, List.getElem?_cons_zero] at z0
  obtain ⟨v4, w4, hrun, hown, hf4⟩ := app_str2 (HV.out.below HB2.out) (⟨x.toArray⟩ : ByteArray) (by rw [str_size]; omega) (by have := HB2.out.size; omega) 119
  have hx : (⟨x.toArray⟩ : ByteArray).data.toList = x := rfl
  rw [hx] at hown
  have hsz := HB2.out.size
  have ho4 := hf4.obj ho (fun e => by
    obtain ⟨-, -, cs, h7⟩ := (HV.out.below HB2.out).typed e
    rw [ho] at h7
    simp only [Option.some.injEq, Obj.cells.injEq] at h7
    exact absurd h7.2.1 (by decide))
  have hb4 : Below B w w4 := (HB2.out.mono (by omega)).trans (hf4.below B (by omega) (fun j hj e => by
    have := ((HV.out.below HB2.out).typed e).1
    omega))
  have F5 := (Fr.refl (fun i => i = bb) w4).setCell (p := ⟨bb, 0, none⟩) (fun _ => rfl) v4
  have HRES := hide (show (w4.setCell ⟨bb, 0, none⟩ v4).heap[bb]? = some (.cells #[v4] 119 (0, 0)) ∧ OwB (w4.setCell ⟨bb, 0, none⟩ v4) B v4 (l ++ x) ∧ Below B w (w4.setCell ⟨bb, 0, none⟩ v4) ∧ Fr (fun j => j = bb ∨ v.ownBlock = some j) w (w4.setCell ⟨bb, 0, none⟩ v4) from
    ⟨by simpa using obj_set ho4 0 v4, hown.fr F5 (fun j e cs f h => by
      subst e
      rw [ho4] at h
      simp only [Option.some.injEq, Obj.cells.injEq] at h
      exact absurd h.2.1 (by decide)), hb4.trans (F5.below B (by have := hb4.size; omega) (fun j hj e => by omega)), (((Fr.of_below HB2.out).trans hf4 (fun _ _ e => .inr e)).trans F5 (fun _ _ e => .inl e))⟩)
  have HAPP : Hid ((Builtin.append_ #[119, 9] 119 #[v, .string ⟨x.toArray⟩]).run Try.prog w2 = .ok v4 w4) := hide hrun
  have x0 := obj_cell ho4 0
  have tx := obj_frozen ho4 0
  simp only [List.getElem?_toArray, List.getElem?_cons_zero] at x0
  obtain ⟨A4, n4, c4, e4⟩ : ∃ A n c, v4 = .slice A n c := by
    obtain ⟨A, c, e, -⟩ := hown.rd
    exact ⟨A, _, c, e⟩
  subst e4
  clear ho hrun hown hf4 ho4 hb4 F5 hx hsz
  go_wp2_with (refine wpList_append_run (v' := .slice A4 n4 c4) (w' := w4) rfl (.tmp 15) (.tmp 16) 119 9 rfl rfl rfl ?_ ?_; exact HAPP.out)
  go_end0
  exact ⟨rfl, _, HRES.out⟩
end Go.Proofs.Ythcnoamgkkbkcaa
