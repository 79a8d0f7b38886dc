/- A join of 3 texts of this claim: Ref3b, Frames, FramesIO. Conditions: none of their own. -/
import Derived.Test.YtljmaicobafgkaaK4
import Derived.Test.YtljmaicobafgkaaK2
import Derived.Test.YtljmaicobafgkaaK3
section
/- The walks of the references' takers. -/
namespace Go.Proofs.Ytljmaicobafgkaa
open Go.RowKit

theorem takeInt_none (w : World) :
    Calls Try.prog 114 #[.agg #[.string ⟨#[]⟩, .bool true]] w fun e w' => e = .returned (.tuple #[.agg (rdrCells none), .int .i64 0]) ∧ Below w.heap.size w w' := by
  go_enter Try.func114, Try.ntmps114
  go_wp2
  go_loop [4, 5, 6, 7] (fun q i _ _ => ∃ k : Nat, i = .int .i64 k) (fun _ i _ _ => 10 - (intOf i).toNat)
  case atStart => exact ⟨0, rfl⟩
  case round =>
    obtain ⟨k, rfl⟩ := hrel
    go_wp2_with fail
    refine (bad_any _ _ _).mono ?_
    rintro e w2 ⟨rfl, hb2⟩
    have hbw : Below w.heap.size w ((w.alloc (.cells #[.string ⟨#[]⟩, .bool true] 184)).alloc (.cells #[.string ⟨#[]⟩, .bool false] 184)) := ((Below.refl _ _).alloc (Nat.le_refl _) _).alloc (by simp) _
    have hz := obj_below (obj_new2 w (.cells #[.string ⟨#[]⟩, .bool true] 184) (.cells #[.string ⟨#[]⟩, .bool false] 184)) hb2
    have z0 := obj_cell hz 0
    have z1 := obj_cell hz 1
    have f0 := obj_frozen hz 0
    have f1 := obj_frozen hz 1
    simp only [List.getElem?_toArray, List.getElem?_cons_zero, List.getElem?_cons_succ] at z0 z1
    have HZ := hide hz
    have HB2 := hide (hbw.trans (hb2.mono (by simp; omega)))
    clear hz hb2 hbw
    unfold rdrCells
    go_wp2
    refine bodyPost_ret (res_ct rfl _ _ (w.heap.size + 1) 184 (rdrCells none) _ _ rfl (set_two _ _ _ _ _ _ HZ.out) Try.underlying184 rfl (by kernel_rfl)) rfl ⟨rfl, ?_⟩
    exact (HB2.out.setCell (p := ⟨w.heap.size + 1, 0, none⟩) (by simp) _).setCell (p := ⟨w.heap.size + 1, 1, none⟩) (by simp) _
theorem r3TakeInt_any (σ : Option (List UInt8)) (w : World) (hl : ∀ l, σ = some l → l.length ≤ 1073741824) :
    Calls Try.prog 114 #[.agg (rdrCells σ)] w fun e w' => e = .returned (.tuple #[.agg (rdrCells (rInt σ).2), .int .i64 (rInt σ).1]) ∧ Below w.heap.size w w' := by
  rcases σ with _ | l
  · exact takeInt_none w
  · exact takeInt_any3 l w (hl l rfl)
set_option maxRecDepth 100000 in
theorem r3TakeByte_any (σ : Option (List UInt8)) (w : World) :
    Calls Try.prog 122 #[.agg (rdrCells σ)] w fun e w' => e = .returned (.tuple #[.agg (rdrCells (rByte σ).2), .int .i64 (rByte σ).1]) ∧ Below w.heap.size w w' := by
  rcases σ with _ | l
  · unfold rdrCells rByte
    go_enter Try.func122, Try.ntmps122
    go_wp2_with fail
    refine (bad_any _ _ _).mono ?_
    rintro e w2 ⟨rfl, hb2⟩
    have hbw : Below w.heap.size w ((w.alloc (.cells #[.string ⟨#[]⟩, .bool true] 184)).alloc (.cells #[.string ⟨#[]⟩, .bool false] 184)) := ((Below.refl _ _).alloc (Nat.le_refl _) _).alloc (by simp) _
    have hz := obj_below (obj_new2 w (.cells #[.string ⟨#[]⟩, .bool true] 184) (.cells #[.string ⟨#[]⟩, .bool false] 184)) hb2
    have z0 := obj_cell hz 0
    have z1 := obj_cell hz 1
    have f0 := obj_frozen hz 0
    have f1 := obj_frozen hz 1
    simp only [List.getElem?_toArray, List.getElem?_cons_zero, List.getElem?_cons_succ] at z0 z1
    have HZ := hide hz
    have HB2 := hide (hbw.trans (hb2.mono (by simp; omega)))
    clear hz hb2 hbw
    unfold rdrCells
    go_wp2
    refine bodyPost_ret (res_ct rfl _ _ (w.heap.size + 1) 184 (rdrCells none) _ _ rfl (set_two _ _ _ _ _ _ HZ.out) Try.underlying184 rfl (by kernel_rfl)) rfl ⟨rfl, ?_⟩
    exact (HB2.out.setCell (p := ⟨w.heap.size + 1, 0, none⟩) (by simp) _).setCell (p := ⟨w.heap.size + 1, 1, none⟩) (by simp) _
  · rcases l with _ | ⟨b, r⟩
    · unfold rdrCells rByte
      go_enter Try.func122, Try.ntmps122
      go_wp2_with fail
      refine (bad_any _ _ _).mono ?_
      rintro e w2 ⟨rfl, hb2⟩
      have hbw : Below w.heap.size w ((w.alloc (.cells #[.string ⟨#[]⟩, .bool false] 184)).alloc (.cells #[.string ⟨#[]⟩, .bool false] 184)) := ((Below.refl _ _).alloc (Nat.le_refl _) _).alloc (by simp) _
      have hz := obj_below (obj_new2 w (.cells #[.string ⟨#[]⟩, .bool false] 184) (.cells #[.string ⟨#[]⟩, .bool false] 184)) hb2
      have z0 := obj_cell hz 0
      have z1 := obj_cell hz 1
      have f0 := obj_frozen hz 0
      have f1 := obj_frozen hz 1
      simp only [List.getElem?_toArray, List.getElem?_cons_zero, List.getElem?_cons_succ] at z0 z1
      have HZ := hide hz
      have HB2 := hide (hbw.trans (hb2.mono (by simp; omega)))
      clear hz hb2 hbw
      unfold rdrCells
      go_wp2
      refine bodyPost_ret (res_ct rfl _ _ (w.heap.size + 1) 184 (rdrCells none) _ _ rfl (set_two _ _ _ _ _ _ HZ.out) Try.underlying184 rfl (by kernel_rfl)) rfl ⟨rfl, ?_⟩
      exact (HB2.out.setCell (p := ⟨w.heap.size + 1, 0, none⟩) (by simp) _).setCell (p := ⟨w.heap.size + 1, 1, none⟩) (by simp) _
    · obtain ⟨s, hs⟩ : ∃ s : ByteArray, s = ⟨(b :: r).toArray⟩ := ⟨_, rfl⟩
      have hz : 1 ≤ s.size := by rw [hs, str_size]; simp
      have hx : s.extract 1 s.size = ⟨r.toArray⟩ := by
        rw [hs]
        exact ext_drop (b :: r) 1
      have hi : ∀ h : 0 < s.size, s[0]'h = b := by subst hs; intro h; rfl
      have h0 : 0 < s.size := by omega
      have hz1 : (1 : Int) ≤ (s.size : Int) := by omega
      have hz2 : (0 : Int) < (s.size : Int) := by omega
      have hsl : ∀ w1 : World, (Instr.slice 9 (.string s) (some (.int .i64 1)) none none).run Try.prog w1 = .ok (.string ⟨r.toArray⟩) w1 := fun w1 => by
        rw [← hx]
        have e : ¬ ((s.size : Int) < 1) := by omega
        subst hs
        go_simp
        intro h
        omega
      have hne : s.toList.isEmpty = false := by rw [Lib.toList_data, hs]; rfl
      have hb := b.toNat_lt
      unfold rdrCells rByte
      simp only
      rw [← hs]
      clear hs
      go_enter Try.func122, Try.ntmps122
      go_wp2
      go_region
      go_wp2
      refine bodyPost_ret (res_ct rfl _ _ (w.heap.size + 1) 184 (rdrCells (some r)) _ _ rfl (obj_new2 _ _ _) Try.underlying184 rfl (by kernel_rfl)) rfl ⟨rfl, ?_⟩
      exact (((Below.refl _ _).alloc (Nat.le_refl _) _).alloc (by simp) _).drew

set_option maxHeartbeats 2000000 in
set_option maxRecDepth 100000 in
theorem r3TakeText_any (σ : Option (List UInt8)) (w : World) (hl : ∀ l, σ = some l → l.length ≤ 1073741824) :
    Calls Try.prog 123 #[.agg (rdrCells σ)] w fun e w' => e = .returned (.tuple #[.agg (rdrCells (rText σ).2), .string ⟨(rText σ).1.toArray⟩]) ∧ Below w.heap.size w w' := by
  have HL := hide hl
  clear hl
  obtain ⟨sv, bv, hσ⟩ : ∃ sv bv, rdrCells σ = #[sv, bv] := by cases σ <;> exact ⟨_, _, rfl⟩
  by_cases hok : ∃ r, (rInt σ).2 = some r ∧ 0 ≤ (rInt σ).1 ∧ (rInt σ).1 ≤ (r.length : Int)
  · obtain ⟨r, h2, h0, h1⟩ := hok
    have hrl : r.length ≤ 1073741824 := rInt_len h2 HL.out
    obtain ⟨n, hn⟩ : ∃ n : Nat, (rInt σ).1 = n := ⟨(rInt σ).1.toNat, by omega⟩
    have ht : rText σ = (r.take n, some (r.drop n)) := by
      unfold rText
      rw [h2]
      simp only [hn]
      rw [if_pos (by omega)]
      rfl
    have hcall := r3TakeInt_any σ
    rw [h2, hn] at hcall
    have HC := hide hcall
    rw [ht]
    rw [hn] at h1
    have h1' : n ≤ r.length := by omega
    have HS := hide hσ
    rw [hσ]
    clear ht hcall h2 hn h0 hσ
    have hz : (⟨r.toArray⟩ : ByteArray).size = r.length := rfl
    have hx := ext_take r n
    have hy := ext_drop r n
    go_enter Try.func123, Try.ntmps123
    go_wp2_with fail
    rw [← HS.out]
    refine (HC.out _ HL.out).mono ?_
    rintro e w1 ⟨rfl, hb1⟩
    rw [HS.out] at hb1
    have hbw : Below w.heap.size w ((w.alloc (.cells #[sv, bv] 184)).alloc (.cells #[.string ⟨#[]⟩, .bool false] 184)) := ((Below.refl _ _).alloc (Nat.le_refl _) _).alloc (by simp) _
    have hbz := obj_below (obj_new2 w (.cells #[sv, bv] 184) (.cells #[.string ⟨#[]⟩, .bool false] 184)) hb1
    have z0 := obj_cell hbz 0
    have z1 := obj_cell hbz 1
    have f0 := obj_frozen hbz 0
    have f1 := obj_frozen hbz 1
    simp only [List.getElem?_toArray, List.getElem?_cons_zero, List.getElem?_cons_succ] at z0 z1
    have HZ := hide hbz
    have HB1 := hide (hbw.trans (hb1.mono (by simp; omega)))
    have hs1 := hb1.size
    simp only [World.size_alloc] at hs1
    have hs2 : w.heap.size + 1 < w1.heap.size := by omega
    have hs3 : w.heap.size < w1.heap.size := by omega
    clear hbz hb1 hbw
    rw [HS.out, show rdrCells (some r) = #[.string ⟨r.toArray⟩, .bool false] from rfl]
    go_wp2
    go_region
    go_wp2
    refine bodyPost_ret (res_ct rfl _ _ (w.heap.size + 1) 184 (rdrCells (some (r.drop n))) _ _ rfl (obj_alloc (set_two _ _ _ _ _ _ HZ.out) _) Try.underlying184 rfl (by kernel_rfl)) rfl ⟨rfl, ?_⟩
    exact (((HB1.out.setCell (p := ⟨w.heap.size + 1, 0, none⟩) (by simp) _).setCell (p := ⟨w.heap.size + 1, 1, none⟩) (by simp) _).alloc (by simp [World.setCell]; omega) _).drew
  · have ht : rText σ = ([], none) := by
      unfold rText
      split
      · rfl
      · rename_i r h2
        rw [if_neg (fun hh => hok ⟨r, h2, hh.1, hh.2⟩)]
    have hcall := r3TakeInt_any σ
    obtain ⟨s2, b2, hs2⟩ : ∃ s2 b2, rdrCells (rInt σ).2 = #[.string s2, .bool b2] := by cases (rInt σ).2 <;> exact ⟨_, _, rfl⟩
    have hneg : b2 = true ∨ (b2 = false ∧ (rInt σ).1 < 0) ∨ (b2 = false ∧ ¬ (rInt σ).1 < 0 ∧ (s2.size : Int) < (rInt σ).1) := by
      rcases h2 : (rInt σ).2 with _ | r
      · rw [h2] at hs2
        simp only [rdrCells, Array.mk.injEq, List.cons.injEq, Value.bool.injEq, Value.string.injEq, and_true] at hs2
        exact .inl hs2.2.symm
      · rw [h2] at hs2
        simp only [rdrCells, Array.mk.injEq, List.cons.injEq, Value.bool.injEq, Value.string.injEq, and_true] at hs2
        obtain ⟨rfl, rfl⟩ := hs2
        rcases Int.lt_or_le (rInt σ).1 0 with h | h
        · exact .inr (.inl ⟨rfl, h⟩)
        · exact .inr (.inr ⟨rfl, by omega, Int.not_le.1 (fun h' => hok ⟨r, h2, h, by rw [str_size] at h'; exact h'⟩)⟩)
    obtain ⟨n, hn⟩ : ∃ n, n = (rInt σ).1 := ⟨_, rfl⟩
    rw [← hn] at hneg
    rw [hs2, ← hn] at hcall
    have HC := hide hcall
    rw [ht]
    have HS := hide hσ
    rw [hσ]
    clear ht hcall hn hσ hs2 hok
    rcases hneg with rfl | ⟨rfl, hn⟩ | ⟨rfl, hn0, hn⟩
    all_goals
      go_enter Try.func123, Try.ntmps123
      go_wp2_with fail
      rw [← HS.out]
      refine (HC.out _ HL.out).mono ?_
      rintro e w1 ⟨rfl, hb1⟩
      rw [HS.out] at hb1
      have hbw : Below w.heap.size w ((w.alloc (.cells #[sv, bv] 184)).alloc (.cells #[.string ⟨#[]⟩, .bool false] 184)) := ((Below.refl _ _).alloc (Nat.le_refl _) _).alloc (by simp) _
      have hbx := obj_below (obj_alloc (obj_new w (.cells #[sv, bv] 184)) (.cells #[.string ⟨#[]⟩, .bool false] 184)) hb1
      have y0 := obj_cell hbx 0
      have y1 := obj_cell hbx 1
      have hbz := obj_below (obj_new2 w (.cells #[sv, bv] 184) (.cells #[.string ⟨#[]⟩, .bool false] 184)) hb1
      simp only [List.getElem?_toArray, List.getElem?_cons_zero, List.getElem?_cons_succ] at y0 y1
      have HZ := hide hbz
      have HB1 := hide (hbw.trans (hb1.mono (by simp; omega)))
      have hs1 := hb1.size
      simp only [World.size_alloc] at hs1
      have hs2 : w.heap.size + 1 < w1.heap.size := by omega
      have hs3 : w.heap.size < w1.heap.size := by omega
      clear hbz hb1 hbw hbx
      rw [HS.out]
      go_wp2_with fail
      refine (bad_any _ _ _).mono ?_
      rintro e w2 ⟨rfl, hb2⟩
      have hbz := obj_below (obj_alloc HZ.out _) hb2
      have z0 := obj_cell hbz 0
      have z1 := obj_cell hbz 1
      have f0 := obj_frozen hbz 0
      have f1 := obj_frozen hbz 1
      simp only [List.getElem?_toArray, List.getElem?_cons_zero, List.getElem?_cons_succ] at z0 z1
      have HZ2 := hide hbz
      have HB2 := hide ((HB1.out.alloc (by omega) _).trans (hb2.mono (by simp; omega)))
      clear hbz hb2
      rw [show rdrCells none = #[.string ⟨#[]⟩, .bool true] from rfl]
      go_wp2
      refine bodyPost_ret (res_ct rfl _ _ (w.heap.size + 1) 184 (rdrCells none) _ _ rfl (set_two _ _ _ _ _ _ HZ2.out) Try.underlying184 rfl (by kernel_rfl)) rfl ⟨rfl, ?_⟩
      exact ((HB2.out).setCell (p := ⟨w.heap.size + 1, 0, none⟩) (by simp) _).setCell (p := ⟨w.heap.size + 1, 1, none⟩) (by simp) _
end Go.Proofs.Ytljmaicobafgkaa
end
section
/- The walks of package frames. -/
namespace Go.Proofs.Ytljmaicobafgkaa
open Go.RowKit

def msgV (k f t i : Int) (b : ByteArray) : Value := .agg #[.int .i64 k, .int .i64 f, .int .i64 t, .int .i64 i, .string b]
def msgOk (k f t i : Int) : Prop := 1 ≤ k ∧ k ≤ 99 ∧ 0 ≤ f ∧ f ≤ 63 ∧ 0 ≤ t ∧ t ≤ 63 ∧ 0 ≤ i ∧ i < 2147483648
instance (k f t i : Int) : Decidable (msgOk k f t i) := by unfold msgOk; infer_instance
def chk (k f t i : Int) (n : Nat) : Int := if msgOk k f t i then (if 4096 < n then 2 else 0) else 1

set_option maxRecDepth 100000 in
theorem check_any (k f t i : Int) (b : ByteArray) (w : World) (hb : b.size ≤ 9223372036854775807) :
    Calls Try.prog 46 #[.agg #[.int .i64 k, .int .i64 f, .int .i64 t, .int .i64 i, .string b]] w fun e w' => e = .returned (.int .i64 (chk k f t i b.size)) ∧ Below w.heap.size w w' := by
  by_cases h0 : k < 1
  · have hv : chk k f t i b.size = 1 := if_neg (by unfold msgOk; omega)
    rw [hv]
    clear hv
    go_enter Try.func46, Try.ntmps46
    go_wp2
    go_ret
    exact ⟨rfl, (Below.refl _ _).alloc (Nat.le_refl _) _⟩
  by_cases h1 : 99 < k
  · have hv : chk k f t i b.size = 1 := if_neg (by unfold msgOk; omega)
    rw [hv]
    clear hv
    go_enter Try.func46, Try.ntmps46
    go_wp2
    go_ret
    exact ⟨rfl, (Below.refl _ _).alloc (Nat.le_refl _) _⟩
  by_cases h2 : f < 0
  · have hv : chk k f t i b.size = 1 := if_neg (by unfold msgOk; omega)
    rw [hv]
    clear hv
    go_enter Try.func46, Try.ntmps46
    go_wp2
    go_ret
    exact ⟨rfl, (Below.refl _ _).alloc (Nat.le_refl _) _⟩
  by_cases h3 : 63 < f
  · have hv : chk k f t i b.size = 1 := if_neg (by unfold msgOk; omega)
    rw [hv]
    clear hv
    go_enter Try.func46, Try.ntmps46
    go_wp2
    go_ret
    exact ⟨rfl, (Below.refl _ _).alloc (Nat.le_refl _) _⟩
  by_cases h4 : t < 0
  · have hv : chk k f t i b.size = 1 := if_neg (by unfold msgOk; omega)
    rw [hv]
    clear hv
    go_enter Try.func46, Try.ntmps46
    go_wp2
    go_ret
    exact ⟨rfl, (Below.refl _ _).alloc (Nat.le_refl _) _⟩
  by_cases h5 : 63 < t
  · have hv : chk k f t i b.size = 1 := if_neg (by unfold msgOk; omega)
    rw [hv]
    clear hv
    go_enter Try.func46, Try.ntmps46
    go_wp2
    go_ret
    exact ⟨rfl, (Below.refl _ _).alloc (Nat.le_refl _) _⟩
  by_cases h6 : i < 0
  · have hv : chk k f t i b.size = 1 := if_neg (by unfold msgOk; omega)
    rw [hv]
    clear hv
    go_enter Try.func46, Try.ntmps46
    go_wp2
    go_ret
    exact ⟨rfl, (Below.refl _ _).alloc (Nat.le_refl _) _⟩
  by_cases h7 : 2147483648 ≤ i
  · have hv : chk k f t i b.size = 1 := if_neg (by unfold msgOk; omega)
    rw [hv]
    clear hv
    go_enter Try.func46, Try.ntmps46
    go_wp2
    go_ret
    exact ⟨rfl, (Below.refl _ _).alloc (Nat.le_refl _) _⟩
  by_cases h8 : 4096 < b.size
  · have hv : chk k f t i b.size = 2 := by unfold chk; rw [if_pos (by unfold msgOk; omega), if_pos h8]
    rw [hv]
    clear hv
    go_enter Try.func46, Try.ntmps46
    go_wp2
    go_ret
    exact ⟨rfl, (Below.refl _ _).alloc (Nat.le_refl _) _⟩
  · have hv : chk k f t i b.size = 0 := by unfold chk; rw [if_pos (by unfold msgOk; omega), if_neg h8]
    rw [hv]
    clear hv
    go_enter Try.func46, Try.ntmps46
    go_wp2
    go_ret
    exact ⟨rfl, (Below.refl _ _).alloc (Nat.le_refl _) _⟩

def fInt (at_ : Addr) (a b : FuncId) (wv rv : Value) : Value := .iface 255 (.agg #[.pointer (some at_), .func (.func a) #[wv] #[], .func (.func b) #[rv] #[]])
def fStr (at_ : Addr) (a b : FuncId) (wv rv : Value) : Value := .iface 259 (.agg #[.pointer (some at_), .func (.func a) #[wv] #[], .func (.func b) #[rv] #[]])
set_option maxRecDepth 100000 in
theorem parts_any (g : Nat) (wv rv : Value) (w : World) :
    Calls Try.prog 116 #[.pointer (some ⟨g, 0, none⟩), wv, rv] w fun e w' => ∃ q, e = .returned (.slice (some ⟨q, 0, none⟩) 5 5) ∧ q = w.heap.size ∧
      w'.heap[q]? = some (.cells #[fInt ⟨g, 0, none⟩ 129 133 wv rv, fInt ⟨g, 1, none⟩ 129 133 wv rv, fInt ⟨g, 2, none⟩ 129 133 wv rv, fInt ⟨g, 3, none⟩ 108 112 wv rv, fStr ⟨g, 4, none⟩ 168 169 wv rv] 192 (0, 0)) ∧ Below w.heap.size w w' := by
  go_enter Try.func116, Try.ntmps116
  go_wp2
  refine wp_stl 45 (by kernel_rfl) (by kernel_rfl) ?_
  simp only [List.take_succ_cons, List.take_zero, List.drop_succ_cons, List.drop_zero]
  repeat still_step
  refine wpStill_nil ?_
  go_wp2
  go_ret
  exact ⟨_, rfl, rfl, obj_new _ _, ((Below.refl w.heap.size w).alloc (Nat.le_refl _) _).drew⟩
end Go.Proofs.Ytljmaicobafgkaa
end
section
/- The walks of the fields' write and take. -/
namespace Go.Proofs.Ytljmaicobafgkaa
open Go.RowKit

theorem Wr.drew {w : World} {g : Nat} {most e : Int} {l : List UInt8} (h : Wr w g most l e) : Wr w.drew g most l e := h.below ((Below.refl _ _).drew)
theorem Rdr.drew {w : World} {g : Nat} {σ : Option (List UInt8)} (h : Rdr w g σ) : Rdr w.drew g σ := h
set_option maxRecDepth 100000 in
theorem writeByte_any (g wg j : Nat) (rf : Value) (most : Int) (l : List UInt8) (n : Int) (w : World) (hW : Wr w wg most l 0) (hl : l.length ≤ 1048576) (hc : w.cell? ⟨g, j, none⟩ = some (.int .i64 n)) (h0 : 0 ≤ n) (h1 : n ≤ 255) (hfit : (l.length : Int) + 1 ≤ most) :
    Calls Try.prog 238 #[.agg #[.pointer (some ⟨g, j, none⟩), .func (.func 129) #[.pointer (some ⟨wg, 0, none⟩)] #[], rf]] w fun e w' => e = .returned (.tuple #[]) ∧ Wr w' wg most (l ++ [ub n]) 0 ∧ Fr (· = wg) w w' := by
  have hc2 : (w.alloc (.cells #[.pointer (some ⟨g, j, none⟩), .func (.func 129) #[.pointer (some ⟨wg, 0, none⟩)] #[], rf] 255)).cell? ⟨g, j, none⟩ = some (.int .i64 n) :=
    (World.cell?_alloc_lt w _ _ (World.block_lt_of_cell? w _ hc)).trans hc
  have HW := hide (hW.below ((Below.refl _ _).alloc (Nat.le_refl _) (.cells #[.pointer (some ⟨g, j, none⟩), .func (.func 129) #[.pointer (some ⟨wg, 0, none⟩)] #[], rf] 255))).drew
  clear hW
  go_enter Try.func238, Try.ntmps238
  go_wp2
  refine wp_stl 6 (by kernel_rfl) (by kernel_rfl) ?_
  simp only [List.take_succ_cons, List.take_zero, List.drop_succ_cons, List.drop_zero]
  repeat still_step
  refine wpStill_nil ?_
  go_wp2_with fail
  refine (wByte_fits wg most l n _ HW.out hl h0 h1 hfit).mono ?_
  rintro e w' ⟨rfl, hw, hf⟩
  go_wp2
  go_end0
  exact ⟨rfl, hw, ((Fr.refl _ _).alloc _).drew.trans hf (fun _ _ h => h)⟩
set_option maxRecDepth 100000 in
theorem writeInt_any (g wg j : Nat) (rf : Value) (most : Int) (l : List UInt8) (n : Int) (w : World) (hW : Wr w wg most l 0) (hl : l.length ≤ 1048576) (hc : w.cell? ⟨g, j, none⟩ = some (.int .i64 n)) (h0 : -9223372036854775808 ≤ n) (h1 : n ≤ 9223372036854775807) (hfit : (l.length : Int) + 10 ≤ most) :
    Calls Try.prog 238 #[.agg #[.pointer (some ⟨g, j, none⟩), .func (.func 108) #[.pointer (some ⟨wg, 0, none⟩)] #[], rf]] w fun e w' => e = .returned (.tuple #[]) ∧ Wr w' wg most (l ++ num n) 0 ∧ Fr (· = wg) w w' := by
  have hc2 : (w.alloc (.cells #[.pointer (some ⟨g, j, none⟩), .func (.func 108) #[.pointer (some ⟨wg, 0, none⟩)] #[], rf] 255)).cell? ⟨g, j, none⟩ = some (.int .i64 n) :=
    (World.cell?_alloc_lt w _ _ (World.block_lt_of_cell? w _ hc)).trans hc
  have HW := hide (hW.below ((Below.refl _ _).alloc (Nat.le_refl _) (.cells #[.pointer (some ⟨g, j, none⟩), .func (.func 108) #[.pointer (some ⟨wg, 0, none⟩)] #[], rf] 255))).drew
  clear hW
  go_enter Try.func238, Try.ntmps238
  go_wp2
  refine wp_stl 6 (by kernel_rfl) (by kernel_rfl) ?_
  simp only [List.take_succ_cons, List.take_zero, List.drop_succ_cons, List.drop_zero]
  repeat still_step
  refine wpStill_nil ?_
  go_wp2_with fail
  refine (wInt_fits wg most l n _ HW.out hl h0 h1 hfit).mono ?_
  rintro e w' ⟨rfl, hw, hf⟩
  go_wp2
  go_end0
  exact ⟨rfl, hw, ((Fr.refl _ _).alloc _).drew.trans hf (fun _ _ h => h)⟩
set_option maxRecDepth 100000 in
theorem writeText_any (g wg j : Nat) (rf : Value) (most : Int) (l : List UInt8) (s : ByteArray) (w : World) (hW : Wr w wg most l 0) (hl : l.length ≤ 1048576) (hc : w.cell? ⟨g, j, none⟩ = some (.string s)) (hs : s.size ≤ 1048576) (hfit : (l.length : Int) + s.size + 10 ≤ most) :
    Calls Try.prog 240 #[.agg #[.pointer (some ⟨g, j, none⟩), .func (.func 168) #[.pointer (some ⟨wg, 0, none⟩)] #[], rf]] w fun e w' => e = .returned (.tuple #[]) ∧ Wr w' wg most (l ++ textB s.data.toList) 0 ∧ Fr (· = wg) w w' := by
  have hc2 : (w.alloc (.cells #[.pointer (some ⟨g, j, none⟩), .func (.func 168) #[.pointer (some ⟨wg, 0, none⟩)] #[], rf] 259)).cell? ⟨g, j, none⟩ = some (.string s) :=
    (World.cell?_alloc_lt w _ _ (World.block_lt_of_cell? w _ hc)).trans hc
  have HW := hide (hW.below ((Below.refl _ _).alloc (Nat.le_refl _) (.cells #[.pointer (some ⟨g, j, none⟩), .func (.func 168) #[.pointer (some ⟨wg, 0, none⟩)] #[], rf] 259))).drew
  clear hW
  go_enter Try.func240, Try.ntmps240
  go_wp2
  refine wp_stl 6 (by kernel_rfl) (by kernel_rfl) ?_
  simp only [List.take_succ_cons, List.take_zero, List.drop_succ_cons, List.drop_zero]
  repeat still_step
  refine wpStill_nil ?_
  go_wp2_with fail
  refine (wText_fits wg most l s _ HW.out hl hs hfit).mono ?_
  rintro e w' ⟨rfl, hw, hf⟩
  go_wp2
  go_end0
  exact ⟨rfl, hw, ((Fr.refl _ _).alloc _).drew.trans hf (fun _ _ h => h)⟩
set_option maxRecDepth 100000 in
theorem takeByte_any (g rg j : Nat) (lf : Value) (σ : Option (List UInt8)) (cs : Array Value) (hj : j < cs.size) (w : World) (h : Rdr w rg σ) (hl : ∀ l, σ = some l → l.length ≤ 1073741824) (hb : w.heap[g]? = some (.cells cs 63 (0, 0))) :
    Calls Try.prog 237 #[.agg #[.pointer (some ⟨g, j, none⟩), lf, .func (.func 133) #[.pointer (some ⟨rg, 0, none⟩)] #[]]] w fun e w' => e = .returned (.tuple #[]) ∧ Rdr w' rg (rByte σ).2 ∧ w'.heap[g]? = some (.cells (cs.setIfInBounds j (.int .i64 (rByte σ).1)) 63 (0, 0)) ∧ Fr (fun k => k = rg ∨ k = g) w w' := by
  have hne : g ≠ rg := obj_ne hb h (by decide)
  have HBX := hide (obj_new w (.cells #[.pointer (some ⟨g, j, none⟩), lf, .func (.func 133) #[.pointer (some ⟨rg, 0, none⟩)] #[]] 255))
  have HW := hide (h.below ((Below.refl _ _).alloc (Nat.le_refl _) (.cells #[.pointer (some ⟨g, j, none⟩), lf, .func (.func 133) #[.pointer (some ⟨rg, 0, none⟩)] #[]] 255))).drew
  have HB := hide (obj_alloc hb (.cells #[.pointer (some ⟨g, j, none⟩), lf, .func (.func 133) #[.pointer (some ⟨rg, 0, none⟩)] #[]] 255))
  have HL := hide hl
  have hrg := h.lt
  have hgl := obj_lt hb
  clear h hb hl
  go_enter Try.func237, Try.ntmps237
  go_wp2
  go_region_with ((go_at_call 133; refine (rByte_any rg σ _ HW.out HL.out).mono ?_; rintro e w' ⟨rfl, hr, hf⟩; have hbx := hf.obj (k := w.heap.size) HBX.out (by omega); have hb1 := hf.obj (k := g) HB.out hne; have d0 := obj_cell hbx 0; have d1 := obj_cell hb1 j; have d2 := obj_frozen hb1 j; simp only [List.getElem?_toArray, List.getElem?_cons_zero] at d0; rw [Array.getElem?_eq_getElem hj] at d1; replace hr := hide hr; replace hf := hide hf; replace hbx := hide hbx; replace hb1 := hide hb1))
  all_goals
    go_wp2
    go_end0
    exact ⟨rfl, obj_far hr.out (Ne.symm hne) _, obj_set hb1.out j _,
      (((((Fr.refl (fun k => k = rg ∨ k = g) w).alloc _).drew).trans hf.out (fun _ _ h => .inl h)).setCell (p := ⟨g, j, none⟩) (fun _ => .inr rfl) _)⟩
set_option maxRecDepth 100000 in
theorem takeInt_any (g rg j : Nat) (lf : Value) (σ : Option (List UInt8)) (cs : Array Value) (hj : j < cs.size) (w : World) (h : Rdr w rg σ) (hl : ∀ l, σ = some l → l.length ≤ 1073741824) (hb : w.heap[g]? = some (.cells cs 63 (0, 0))) :
    Calls Try.prog 237 #[.agg #[.pointer (some ⟨g, j, none⟩), lf, .func (.func 112) #[.pointer (some ⟨rg, 0, none⟩)] #[]]] w fun e w' => e = .returned (.tuple #[]) ∧ Rdr w' rg (rInt σ).2 ∧ w'.heap[g]? = some (.cells (cs.setIfInBounds j (.int .i64 (rInt σ).1)) 63 (0, 0)) ∧ Fr (fun k => k = rg ∨ k = g) w w' := by
  have hne : g ≠ rg := obj_ne hb h (by decide)
  have HBX := hide (obj_new w (.cells #[.pointer (some ⟨g, j, none⟩), lf, .func (.func 112) #[.pointer (some ⟨rg, 0, none⟩)] #[]] 255))
  have HW := hide (h.below ((Below.refl _ _).alloc (Nat.le_refl _) (.cells #[.pointer (some ⟨g, j, none⟩), lf, .func (.func 112) #[.pointer (some ⟨rg, 0, none⟩)] #[]] 255))).drew
  have HB := hide (obj_alloc hb (.cells #[.pointer (some ⟨g, j, none⟩), lf, .func (.func 112) #[.pointer (some ⟨rg, 0, none⟩)] #[]] 255))
  have HL := hide hl
  have hrg := h.lt
  have hgl := obj_lt hb
  clear h hb hl
  go_enter Try.func237, Try.ntmps237
  go_wp2
  go_region_with ((go_at_call 112; refine (rInt_any rg σ _ HW.out HL.out).mono ?_; rintro e w' ⟨rfl, hr, hf⟩; have hbx := hf.obj (k := w.heap.size) HBX.out (by omega); have hb1 := hf.obj (k := g) HB.out hne; have d0 := obj_cell hbx 0; have d1 := obj_cell hb1 j; have d2 := obj_frozen hb1 j; simp only [List.getElem?_toArray, List.getElem?_cons_zero] at d0; rw [Array.getElem?_eq_getElem hj] at d1; replace hr := hide hr; replace hf := hide hf; replace hbx := hide hbx; replace hb1 := hide hb1))
  all_goals
    go_wp2
    go_end0
    exact ⟨rfl, obj_far hr.out (Ne.symm hne) _, obj_set hb1.out j _,
      (((((Fr.refl (fun k => k = rg ∨ k = g) w).alloc _).drew).trans hf.out (fun _ _ h => .inl h)).setCell (p := ⟨g, j, none⟩) (fun _ => .inr rfl) _)⟩
set_option maxRecDepth 100000 in
theorem takeText_any (g rg j : Nat) (lf : Value) (σ : Option (List UInt8)) (cs : Array Value) (hj : j < cs.size) (w : World) (h : Rdr w rg σ) (hl : ∀ l, σ = some l → l.length ≤ 1073741824) (hb : w.heap[g]? = some (.cells cs 63 (0, 0))) :
    Calls Try.prog 239 #[.agg #[.pointer (some ⟨g, j, none⟩), lf, .func (.func 169) #[.pointer (some ⟨rg, 0, none⟩)] #[]]] w fun e w' => e = .returned (.tuple #[]) ∧ Rdr w' rg (rText σ).2 ∧ w'.heap[g]? = some (.cells (cs.setIfInBounds j (.string ⟨(rText σ).1.toArray⟩)) 63 (0, 0)) ∧ Fr (fun k => k = rg ∨ k = g) w w' := by
  have hne : g ≠ rg := obj_ne hb h (by decide)
  have HBX := hide (obj_new w (.cells #[.pointer (some ⟨g, j, none⟩), lf, .func (.func 169) #[.pointer (some ⟨rg, 0, none⟩)] #[]] 259))
  have HW := hide (h.below ((Below.refl _ _).alloc (Nat.le_refl _) (.cells #[.pointer (some ⟨g, j, none⟩), lf, .func (.func 169) #[.pointer (some ⟨rg, 0, none⟩)] #[]] 259))).drew
  have HB := hide (obj_alloc hb (.cells #[.pointer (some ⟨g, j, none⟩), lf, .func (.func 169) #[.pointer (some ⟨rg, 0, none⟩)] #[]] 259))
  have HL := hide hl
  have hrg := h.lt
  have hgl := obj_lt hb
  clear h hb hl
  go_enter Try.func239, Try.ntmps239
  go_wp2
  go_region_with ((go_at_call 169; refine (rText_any rg σ _ HW.out HL.out).mono ?_; rintro e w' ⟨rfl, hr, hf⟩; have hbx := hf.obj (k := w.heap.size) HBX.out (by omega); have hb1 := hf.obj (k := g) HB.out hne; have d0 := obj_cell hbx 0; have d1 := obj_cell hb1 j; have d2 := obj_frozen hb1 j; simp only [List.getElem?_toArray, List.getElem?_cons_zero] at d0; rw [Array.getElem?_eq_getElem hj] at d1; replace hr := hide hr; replace hf := hide hf; replace hbx := hide hbx; replace hb1 := hide hb1))
  all_goals
    go_wp2
    go_end0
    exact ⟨rfl, obj_far hr.out (Ne.symm hne) _, obj_set hb1.out j _,
      (((((Fr.refl (fun k => k = rg ∨ k = g) w).alloc _).drew).trans hf.out (fun _ _ h => .inl h)).setCell (p := ⟨g, j, none⟩) (fun _ => .inr rfl) _)⟩
end Go.Proofs.Ytljmaicobafgkaa
end
