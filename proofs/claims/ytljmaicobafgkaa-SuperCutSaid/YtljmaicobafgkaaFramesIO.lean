/- The walks of the fields' write and take. -/
import Derived.Test.YtljmaicobafgkaaFrames
namespace Go.Proofs.Ytljmaicobafgkaa
open Go.RowKit

theorem Wr.drew {w : World} {g : Nat} {most e : Int} {l : List UInt8} (h : Wr w g most l e) : Wr w.drew g most l e := h.below ((Below.refl _ _).drew)
theorem Rdr.drew {w : World} {g : Nat} {σ : Option (List UInt8)} (h : Rdr w g σ) : Rdr w.drew g σ := h
set_option maxRecDepth 100000 in
theorem writeByte_any (g wg j : Nat) (rf : Value) (most : Int) (l : List UInt8) (n : Int) (w : World) (hW : Wr w wg most l 0) (hl : l.length ≤ 1048576) (hc : w.cell? ⟨g, j, none⟩ = some (.int .i64 n)) (h0 : 0 ≤ n) (h1 : n ≤ 255) (hfit : (l.length : Int) + 1 ≤ most) :
    Calls Try.prog 238 #[.agg #[.pointer (some ⟨g, j, none⟩), .func (.func 129) #[.pointer (some ⟨wg, 0, none⟩)] #[], rf]] w fun e w' => e = .returned (.tuple #[]) ∧ Wr w' wg most (l ++ [ub n]) 0 ∧ Fr (· = wg) w w' := by
  have hc2 : (w.alloc (.cells #[.pointer (some ⟨g, j, none⟩), .func (.func 129) #[.pointer (some ⟨wg, 0, none⟩)] #[], rf] 255)).cell? ⟨g, j, none⟩ = some (.int .i64 n) :=
    (World.cell?_alloc_lt w _ _ (World.block_lt_of_cell? w _ hc)).trans hc
  have HW := hide (hW.below ((Below.refl _ _).alloc (Nat.le_refl _) (.cells #[.pointer (some ⟨g, j, none⟩), .func (.func 129) #[.pointer (some ⟨wg, 0, none⟩)] #[], rf] 255))).drew
  clear hW
  go_enter Try.func238, Try.ntmps238
  go_wp2
  refine wp_stl 6 (by kernel_rfl) (by kernel_rfl) ?_
  simp only [List.take_succ_cons, List.take_zero, List.drop_succ_cons, List.drop_zero]
  repeat still_step
  refine wpStill_nil ?_
  go_wp2_with fail
  refine (wByte_fits wg most l n _ HW.out hl h0 h1 hfit).mono ?_
  rintro e w' ⟨rfl, hw, hf⟩
  go_wp2
  go_end0
  exact ⟨rfl, hw, ((Fr.refl _ _).alloc _).drew.trans hf (fun _ _ h => h)⟩
set_option maxRecDepth 100000 in
theorem writeInt_any (g wg j : Nat) (rf : Value) (most : Int) (l : List UInt8) (n : Int) (w : World) (hW : Wr w wg most l 0) (hl : l.length ≤ 1048576) (hc : w.cell? ⟨g, j, none⟩ = some (.int .i64 n)) (h0 : -9223372036854775808 ≤ n) (h1 : n ≤ 9223372036854775807) (hfit : (l.length : Int) + 10 ≤ most) :
    Calls Try.prog 238 #[.agg #[.pointer (some ⟨g, j, none⟩), .func (.func 108) #[.pointer (some ⟨wg, 0, none⟩)] #[], rf]] w fun e w' => e = .returned (.tuple #[]) ∧ Wr w' wg most (l ++ num n) 0 ∧ Fr (· = wg) w w' := by
  have hc2 : (w.alloc (.cells #[.pointer (some ⟨g, j, none⟩), .func (.func 108) #[.pointer (some ⟨wg, 0, none⟩)] #[], rf] 255)).cell? ⟨g, j, none⟩ = some (.int .i64 n) :=
    (World.cell?_alloc_lt w _ _ (World.block_lt_of_cell? w _ hc)).trans hc
  have HW := hide (hW.below ((Below.refl _ _).alloc (Nat.le_refl _) (.cells #[.pointer (some ⟨g, j, none⟩), .func (.func 108) #[.pointer (some ⟨wg, 0, none⟩)] #[], rf] 255))).drew
  clear hW
  go_enter Try.func238, Try.ntmps238
  go_wp2
  refine wp_stl 6 (by kernel_rfl) (by kernel_rfl) ?_
  simp only [List.take_succ_cons, List.take_zero, List.drop_succ_cons, List.drop_zero]
  repeat still_step
  refine wpStill_nil ?_
  go_wp2_with fail
  refine (wInt_fits wg most l n _ HW.out hl h0 h1 hfit).mono ?_
  rintro e w' ⟨rfl, hw, hf⟩
  go_wp2
  go_end0
  exact ⟨rfl, hw, ((Fr.refl _ _).alloc _).drew.trans hf (fun _ _ h => h)⟩
set_option maxRecDepth 100000 in
theorem writeText_any (g wg j : Nat) (rf : Value) (most : Int) (l : List UInt8) (s : ByteArray) (w : World) (hW : Wr w wg most l 0) (hl : l.length ≤ 1048576) (hc : w.cell? ⟨g, j, none⟩ = some (.string s)) (hs : s.size ≤ 1048576) (hfit : (l.length : Int) + s.size + 10 ≤ most) :
    Calls Try.prog 240 #[.agg #[.pointer (some ⟨g, j, none⟩), .func (.func 168) #[.pointer (some ⟨wg, 0, none⟩)] #[], rf]] w fun e w' => e = .returned (.tuple #[]) ∧ Wr w' wg most (l ++ textB s.data.toList) 0 ∧ Fr (· = wg) w w' := by
  have hc2 : (w.alloc (.cells #[.pointer (some ⟨g, j, none⟩), .func (.func 168) #[.pointer (some ⟨wg, 0, none⟩)] #[], rf] 259)).cell? ⟨g, j, none⟩ = some (.string s) :=
    (World.cell?_alloc_lt w _ _ (World.block_lt_of_cell? w _ hc)).trans hc
  have HW := hide (hW.below ((Below.refl _ _).alloc (Nat.le_refl _) (.cells #[.pointer (some ⟨g, j, none⟩), .func (.func 168) #[.pointer (some ⟨wg, 0, none⟩)] #[], rf] 259))).drew
  clear hW
  go_enter Try.func240, Try.ntmps240
  go_wp2
  refine wp_stl 6 (by kernel_rfl) (by kernel_rfl) ?_
  simp only [List.take_succ_cons, List.take_zero, List.drop_succ_cons, List.drop_zero]
  repeat still_step
  refine wpStill_nil ?_
  go_wp2_with fail
  refine (wText_fits wg most l s _ HW.out hl hs hfit).mono ?_
  rintro e w' ⟨rfl, hw, hf⟩
  go_wp2
  go_end0
  exact ⟨rfl, hw, ((Fr.refl _ _).alloc _).drew.trans hf (fun _ _ h => h)⟩
set_option maxRecDepth 100000 in
theorem takeByte_any (g rg j : Nat) (lf : Value) (σ : Option (List UInt8)) (cs : Array Value) (hj : j < cs.size) (w : World) (h : Rdr w rg σ) (hl : ∀ l, σ = some l → l.length ≤ 1073741824) (hb : w.heap[g]? = some (.cells cs 63 (0, 0))) :
    Calls Try.prog 237 #[.agg #[.pointer (some ⟨g, j, none⟩), lf, .func (.func 133) #[.pointer (some ⟨rg, 0, none⟩)] #[]]] w fun e w' => e = .returned (.tuple #[]) ∧ Rdr w' rg (rByte σ).2 ∧ w'.heap[g]? = some (.cells (cs.setIfInBounds j (.int .i64 (rByte σ).1)) 63 (0, 0)) ∧ Fr (fun k => k = rg ∨ k = g) w w' := by
  have hne : g ≠ rg := obj_ne hb h (by decide)
  have HBX := hide (obj_new w (.cells #[.pointer (some ⟨g, j, none⟩), lf, .func (.func 133) #[.pointer (some ⟨rg, 0, none⟩)] #[]] 255))
  have HW := hide (h.below ((Below.refl _ _).alloc (Nat.le_refl _) (.cells #[.pointer (some ⟨g, j, none⟩), lf, .func (.func 133) #[.pointer (some ⟨rg, 0, none⟩)] #[]] 255))).drew
  have HB := hide (obj_alloc hb (.cells #[.pointer (some ⟨g, j, none⟩), lf, .func (.func 133) #[.pointer (some ⟨rg, 0, none⟩)] #[]] 255))
  have HL := hide hl
  have hrg := h.lt
  have hgl := obj_lt hb
  clear h hb hl
  go_enter Try.func237, Try.ntmps237
  go_wp2
  go_region_with ((go_at_call 133; refine (rByte_any rg σ _ HW.out HL.out).mono ?_; rintro e w' ⟨rfl, hr, hf⟩; have hbx := hf.obj (k := w.heap.size) HBX.out (by omega); have hb1 := hf.obj (k := g) HB.out hne; have d0 := obj_cell hbx 0; have d1 := obj_cell hb1 j; have d2 := obj_frozen hb1 j; simp only [List.getElem?_toArray, List.getElem?_cons_zero] at d0; rw [Array.getElem?_eq_getElem hj] at d1; replace hr := hide hr; replace hf := hide hf; replace hbx := hide hbx; replace hb1 := hide hb1))
  all_goals
    go_wp2
    go_end0
    exact ⟨rfl, obj_far hr.out (Ne.symm hne) _, obj_set hb1.out j _,
      (((((Fr.refl (fun k => k = rg ∨ k = g) w).alloc _).drew).trans hf.out (fun _ _ h => .inl h)).setCell (p := ⟨g, j, none⟩) (fun _ => .inr rfl) _)⟩
set_option maxRecDepth 100000 in
theorem takeInt_any (g rg j : Nat) (lf : Value) (σ : Option (List UInt8)) (cs : Array Value) (hj : j < cs.size) (w : World) (h : Rdr w rg σ) (hl : ∀ l, σ = some l → l.length ≤ 1073741824) (hb : w.heap[g]? = some (.cells cs 63 (0, 0))) :
    Calls Try.prog 237 #[.agg #[.pointer (some ⟨g, j, none⟩), lf, .func (.func 112) #[.pointer (some ⟨rg, 0, none⟩)] #[]]] w fun e w' => e = .returned (.tuple #[]) ∧ Rdr w' rg (rInt σ).2 ∧ w'.heap[g]? = some (.cells (cs.setIfInBounds j (.int .i64 (rInt σ).1)) 63 (0, 0)) ∧ Fr (fun k => k = rg ∨ k = g) w w' := by
  have hne : g ≠ rg := obj_ne hb h (by decide)
  have HBX := hide (obj_new w (.cells #[.pointer (some ⟨g, j, none⟩), lf, .func (.func 112) #[.pointer (some ⟨rg, 0, none⟩)] #[]] 255))
  have HW := hide (h.below ((Below.refl _ _).alloc (Nat.le_refl _) (.cells #[.pointer (some ⟨g, j, none⟩), lf, .func (.func 112) #[.pointer (some ⟨rg, 0, none⟩)] #[]] 255))).drew
  have HB := hide (obj_alloc hb (.cells #[.pointer (some ⟨g, j, none⟩), lf, .func (.func 112) #[.pointer (some ⟨rg, 0, none⟩)] #[]] 255))
  have HL := hide hl
  have hrg := h.lt
  have hgl := obj_lt hb
  clear h hb hl
  go_enter Try.func237, Try.ntmps237
  go_wp2
  go_region_with ((go_at_call 112; refine (rInt_any rg σ _ HW.out HL.out).mono ?_; rintro e w' ⟨rfl, hr, hf⟩; have hbx := hf.obj (k := w.heap.size) HBX.out (by omega); have hb1 := hf.obj (k := g) HB.out hne; have d0 := obj_cell hbx 0; have d1 := obj_cell hb1 j; have d2 := obj_frozen hb1 j; simp only [List.getElem?_toArray, List.getElem?_cons_zero] at d0; rw [Array.getElem?_eq_getElem hj] at d1; replace hr := hide hr; replace hf := hide hf; replace hbx := hide hbx; replace hb1 := hide hb1))
  all_goals
    go_wp2
    go_end0
    exact ⟨rfl, obj_far hr.out (Ne.symm hne) _, obj_set hb1.out j _,
      (((((Fr.refl (fun k => k = rg ∨ k = g) w).alloc _).drew).trans hf.out (fun _ _ h => .inl h)).setCell (p := ⟨g, j, none⟩) (fun _ => .inr rfl) _)⟩
set_option maxRecDepth 100000 in
theorem takeText_any (g rg j : Nat) (lf : Value) (σ : Option (List UInt8)) (cs : Array Value) (hj : j < cs.size) (w : World) (h : Rdr w rg σ) (hl : ∀ l, σ = some l → l.length ≤ 1073741824) (hb : w.heap[g]? = some (.cells cs 63 (0, 0))) :
    Calls Try.prog 239 #[.agg #[.pointer (some ⟨g, j, none⟩), lf, .func (.func 169) #[.pointer (some ⟨rg, 0, none⟩)] #[]]] w fun e w' => e = .returned (.tuple #[]) ∧ Rdr w' rg (rText σ).2 ∧ w'.heap[g]? = some (.cells (cs.setIfInBounds j (.string ⟨(rText σ).1.toArray⟩)) 63 (0, 0)) ∧ Fr (fun k => k = rg ∨ k = g) w w' := by
  have hne : g ≠ rg := obj_ne hb h (by decide)
  have HBX := hide (obj_new w (.cells #[.pointer (some ⟨g, j, none⟩), lf, .func (.func 169) #[.pointer (some ⟨rg, 0, none⟩)] #[]] 259))
  have HW := hide (h.below ((Below.refl _ _).alloc (Nat.le_refl _) (.cells #[.pointer (some ⟨g, j, none⟩), lf, .func (.func 169) #[.pointer (some ⟨rg, 0, none⟩)] #[]] 259))).drew
  have HB := hide (obj_alloc hb (.cells #[.pointer (some ⟨g, j, none⟩), lf, .func (.func 169) #[.pointer (some ⟨rg, 0, none⟩)] #[]] 259))
  have HL := hide hl
  have hrg := h.lt
  have hgl := obj_lt hb
  clear h hb hl
  go_enter Try.func239, Try.ntmps239
  go_wp2
  go_region_with ((go_at_call 169; refine (rText_any rg σ _ HW.out HL.out).mono ?_; rintro e w' ⟨rfl, hr, hf⟩; have hbx := hf.obj (k := w.heap.size) HBX.out (by omega); have hb1 := hf.obj (k := g) HB.out hne; have d0 := obj_cell hbx 0; have d1 := obj_cell hb1 j; have d2 := obj_frozen hb1 j; simp only [List.getElem?_toArray, List.getElem?_cons_zero] at d0; rw [Array.getElem?_eq_getElem hj] at d1; replace hr := hide hr; replace hf := hide hf; replace hbx := hide hbx; replace hb1 := hide hb1))
  all_goals
    go_wp2
    go_end0
    exact ⟨rfl, obj_far hr.out (Ne.symm hne) _, obj_set hb1.out j _,
      (((((Fr.refl (fun k => k = rg ∨ k = g) w).alloc _).drew).trans hf.out (fun _ _ h => .inl h)).setCell (p := ⟨g, j, none⟩) (fun _ => .inr rfl) _)⟩
end Go.Proofs.Ytljmaicobafgkaa
