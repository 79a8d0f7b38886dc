/- A join of 3 texts of this claim: Im2, Im4, Im3. Conditions: none of their own. -/
import Derived.Test.YtljmaicobafgkaaK0
import Derived.Test.YtljmaicobafgkaaK10
import Derived.Deep.MidRow
import Derived.Deep.WholeRow
import Derived.RangeFuncNested
import Derived.RangeFuncBound
import Derived.RangeFuncCalls
import Derived.RangeFuncLeaves
import Derived.RangeFuncBox
import Derived.Shelf.Abstract
import Derived.WalkKit
import Derived.OwnWalkIn
import Derived.TacticsInMore
import Derived.LoopNIn
import Derived.LoopIn
import Derived.Maps.AppendAt
section
/- Chapter 25, imap: New, Move, Drop, Get. -/
namespace Go.Proofs.Ytljmaicobafgkaa
open Go.RowKit

def Mok (M : Nat → Spot) : Prop := (M 0).ver = 0 ∧ ∀ i, i < 256 → 0 ≤ (M i).ver ∧ (M i).ver ≤ 1099511627776 ∧ (M i).ok
theorem Rep.setVer {C : Array Value} {M : Nat → Spot} (h : Rep C M) {i : Nat} (hi : i < 256) (v : Int) :
    Rep (C.setIfInBounds (i * 4 + 3) (.int .i64 v)) (upd M i ⟨(M i).seg, (M i).frm, (M i).len, v⟩) := by
  obtain ⟨hs, hc⟩ := h
  refine ⟨by simp [hs], fun j hj => ?_⟩
  obtain ⟨a, b, c, d⟩ := hc j hj
  by_cases e : j = i
  · subst e
    rw [upd_same]
    refine ⟨?_, ?_, ?_, ?_⟩
    · rw [Array.getElem?_setIfInBounds_ne (by omega)]; exact a
    · rw [Array.getElem?_setIfInBounds_ne (by omega)]; exact b
    · rw [Array.getElem?_setIfInBounds_ne (by omega)]; exact c
    · rw [Array.getElem?_setIfInBounds_self_of_lt (by omega)]
  · rw [upd_other M _ e]
    refine ⟨?_, ?_, ?_, ?_⟩
    · rw [Array.getElem?_setIfInBounds_ne (by omega)]; exact a
    · rw [Array.getElem?_setIfInBounds_ne (by omega)]; exact b
    · rw [Array.getElem?_setIfInBounds_ne (by omega)]; exact c
    · rw [Array.getElem?_setIfInBounds_ne (by omega)]; exact d
theorem upd_upd (M : Nat → Spot) (i : Nat) (x y : Spot) : upd (upd M i x) i y = upd M i y := by
  funext j
  unfold upd
  split <;> simp_all
theorem IM.set {w : World} {g : Nat} {M : Nat → Spot} (h : IM w g M) {i : Nat} (hi : i < 256) (x : Spot) :
    IM ((((w.setCell ⟨g, i * 4, none⟩ (.int .i64 x.seg)).setCell ⟨g, i * 4 + 1, none⟩ (.int .i64 x.frm)).setCell ⟨g, i * 4 + 2, none⟩ (.int .i64 x.len)).setCell ⟨g, i * 4 + 3, none⟩ (.int .i64 x.ver)) g (upd M i x) := by
  obtain ⟨C, hC, r⟩ := h
  exact ⟨_, obj_set (obj_set (obj_set (obj_set hC _ _) _ _) _ _) _ _, r.set hi x⟩
theorem IM.setVer {w : World} {g : Nat} {M : Nat → Spot} (h : IM w g M) {i : Nat} (hi : i < 256) (v : Int) :
    IM (w.setCell ⟨g, i * 4 + 3, none⟩ (.int .i64 v)) g (upd M i ⟨(M i).seg, (M i).frm, (M i).len, v⟩) := by
  obtain ⟨C, hC, r⟩ := h
  exact ⟨_, obj_set hC _ _, r.setVer hi v⟩
theorem info27 : (Try.prog.info? 27).map (·.size) = some 4 := by kernel_rfl
theorem spot_there {w : World} {g : Nat} {M : Nat → Spot} (h : IM w g M) {k : Nat} (hk : k < 256) : w.there g (k * 4) 4 := by
  intro j hj
  obtain ⟨a, b, c, d⟩ := h.cells hk
  refine ⟨?_, h.thaw _⟩
  match j, hj with
  | 0, _ => rw [Nat.add_zero, a]; rfl
  | 1, _ => rw [b]; rfl
  | 2, _ => rw [c]; rfl
  | 3, _ => rw [d]; rfl
/-- A spot, stored whole. -/
theorem wpList_spot {ops : Array Oper} {rest : List Oper} {o : Oper} {a : Act} {w : World} {Q : Exit → Act → World → Prop} (hgd : o.guard = none) (x y : Operand) (ho : o.op = .store 27 x y)
    {g : Nat} {M : Nat → Spot} (h : IM w g M) {k : Nat} (hk : k < 256) (s : Spot) (hx : a.eval x = .pointer (some ⟨g, k * 4, none⟩)) (hy : a.eval y = .agg #[.int .i64 s.seg, .int .i64 s.frm, .int .i64 s.len, .int .i64 s.ver])
    (hK : ∀ w3, IM w3 g (upd M k s) → Fr (fun j => j = g) w w3 → wpList Try.prog ops Q rest (a.put o.dst undef) w3) : wpList Try.prog ops Q (o :: rest) a w :=
  wpList_store_mid hgd 27 x y ho g (k * 4) _ hx hy (spot_there h hk) info27 (all_oneCell_toArray (cs := [.int .i64 s.seg, .int .i64 s.frm, .int .i64 s.len, .int .i64 s.ver]) (fun v hv => by
    simp only [List.mem_cons, List.not_mem_nil, or_false] at hv
    rcases hv with rfl | rfl | rfl | rfl <;> rfl))
    (hK _ (h.set hk s) (((((Fr.refl (fun j => j = g) w).setCell (p := ⟨g, k * 4, none⟩) (fun _ => rfl) _).setCell (p := ⟨g, k * 4 + 1, none⟩) (fun _ => rfl) _).setCell (p := ⟨g, k * 4 + 2, none⟩) (fun _ => rfl) _).setCell (p := ⟨g, k * 4 + 3, none⟩) (fun _ => rfl) _))
/-- What Move does: where all stand then, the version, the error's number. -/
def mvOut (M : Nat → Spot) (i v : Int) (x : Spot) : (Nat → Spot) × Int × Int :=
  if ¬ (mayI i ∧ x.ok) then (M, 0, 1) else if (M i.toNat).ver ≠ v then (M, 0, 10) else (upd M i.toNat ⟨x.seg, x.frm, x.len, v + 1⟩, v + 1, 0)
set_option maxHeartbeats 2000000 in
set_option maxRecDepth 100000 in
theorem move_nil (i v : Int) (x : Spot) (w : World) :
    Calls Try.prog 29 #[.pointer none, .int .i64 i, .int .i64 v, .agg #[.int .i64 x.seg, .int .i64 x.frm, .int .i64 x.len, .int .i64 x.ver]] w fun e w' => e = .returned (.tuple #[.int .i64 0, .int .i64 1]) ∧ Below w.heap.size w w' := by
  go_enter Try.func29, Try.ntmps29
  go_wp2
  go_ret2
  exact ⟨rfl, (Below.refl _ _).alloc (Nat.le_refl _) _⟩
set_option maxHeartbeats 2000000 in
set_option maxRecDepth 100000 in
theorem move_any (g : Nat) (M : Nat → Spot) (i v : Int) (x : Spot) (w : World) (h : IM w g M) (hm : Mok M) :
    Calls Try.prog 29 #[.pointer (some ⟨g, 0, none⟩), .int .i64 i, .int .i64 v, .agg #[.int .i64 x.seg, .int .i64 x.frm, .int .i64 x.len, .int .i64 x.ver]] w fun e w' =>
      e = .returned (.tuple #[.int .i64 (mvOut M i v x).2.1, .int .i64 (mvOut M i v x).2.2]) ∧ IM w' g (mvOut M i v x).1 ∧ Fr (fun k => k = g) w w' := by
  have H := hide h
  have hg := h.lt
  by_cases h0 : mayI i
  · by_cases h1 : x.ok
    · obtain ⟨k, rfl⟩ : ∃ k : Nat, i = k := ⟨i.toNat, by have := h0.1; omega⟩
      have hk : k < 256 := by have := h0.2; omega
      have hB1 : Below w.heap.size w (w.alloc (.cells #[.int .i64 x.seg, .int .i64 x.frm, .int .i64 x.len, .int .i64 x.ver] 27)) := (Below.refl _ _).alloc (Nat.le_refl _) _
      have hver := (hm.2 k hk).2.1
      have HB1 := hide hB1
      by_cases h2 : (M k).ver = v
      · subst h2
        rw [show mvOut M k (M k).ver x = (upd M k ⟨x.seg, x.frm, x.len, (M k).ver + 1⟩, (M k).ver + 1, 0) from by unfold mvOut; rw [if_neg (by simp [h0, h1]), if_neg (by rw [Int.toNat_natCast]; simp), Int.toNat_natCast]]
        have hver0 := (hm.2 k hk).1
        have HX : Hid ((w.alloc (.cells #[.int .i64 x.seg, .int .i64 x.frm, .int .i64 x.len, .int .i64 x.ver] 27)).heap[w.heap.size]? = some (.cells #[.int .i64 x.seg, .int .i64 x.frm, .int .i64 x.len, .int .i64 x.ver] 27 (0, 0))) := hide (obj_new _ _)
        clear h hm hB1
        go_enter Try.func29, Try.ntmps29
        go_wp2_with fail
        refine (may_any _ _).mono ?_
        rintro e w1 ⟨rfl, rfl⟩
        rw [decide_eq_true h0]
        go_wp2_with fail
        refine (spot_any x _).mono ?_
        rintro e w2 ⟨rfl, hb2⟩
        rw [decide_eq_true h1]
        have hb := HB1.out.trans (hb2.mono (by simp))
        have hI := H.out.below hb
        obtain ⟨a, b, c, d⟩ := hI.cells hk
        have hx := obj_below HX.out hb2
        have x0 := obj_cell hx 0
        have x1 := obj_cell hx 1
        have x2 := obj_cell hx 2
        have x3 := obj_cell hx 3
        simp only [List.getElem?_toArray, List.getElem?_cons_zero, List.getElem?_cons_succ] at x0 x1 x2 x3
        have HB := hide hb
        have HI := hide hI
        clear hb2 hb h0 h1 hx hI a b c
        go_wp2_with (refine wpList_spot rfl (.tmp 36) (.tmp 35) rfl HI.out hk x rfl rfl ?_; intro w3 hI3 hf3; have d3 := (hI3.cells hk).2.2.2; rw [upd_same] at d3; have t3 := hI3.thaw (k * 4 + 3); have HI3 := hide hI3; have HF3 := hide hf3; clear hI3 hf3)
        go_ret2
        refine ⟨rfl, ?_, ?_⟩
        · have h := HI3.out.setVer hk ((M k).ver + 1)
          rw [upd_upd, upd_same] at h
          exact h
        · exact ((Fr.of_below (F := fun j => j = g) HB.out).trans HF3.out (fun _ _ h => h)).setCell (p := ⟨g, k * 4 + 3, none⟩) (fun _ => rfl) _
      · rw [show mvOut M k v x = (M, 0, 10) from by unfold mvOut; rw [if_neg (by simp [h0, h1]), if_pos (by rw [Int.toNat_natCast]; exact h2)]]
        clear h hm hB1
        go_enter Try.func29, Try.ntmps29
        go_wp2_with fail
        refine (may_any _ _).mono ?_
        rintro e w1 ⟨rfl, rfl⟩
        rw [decide_eq_true h0]
        go_wp2_with fail
        refine (spot_any x _).mono ?_
        rintro e w2 ⟨rfl, hb2⟩
        rw [decide_eq_true h1]
        have hb := HB1.out.trans (hb2.mono (by simp))
        obtain ⟨a, b, c, d⟩ := (H.out.below hb).cells hk
        have HB := hide hb
        clear hb2 hb h0 h1
        go_wp2
        go_ret2
        exact ⟨rfl, H.out.below HB.out, Fr.of_below HB.out⟩
    · rw [show mvOut M i v x = (M, 0, 1) from if_pos (by simp [h1])]
      have hB1 : Below w.heap.size w (w.alloc (.cells #[.int .i64 x.seg, .int .i64 x.frm, .int .i64 x.len, .int .i64 x.ver] 27)) := (Below.refl _ _).alloc (Nat.le_refl _) _
      have HB1 := hide hB1
      clear hm h hB1
      go_enter Try.func29, Try.ntmps29
      go_wp2_with fail
      refine (may_any _ _).mono ?_
      rintro e w1 ⟨rfl, rfl⟩
      rw [decide_eq_true h0]
      go_wp2_with fail
      refine (spot_any x _).mono ?_
      rintro e w2 ⟨rfl, hb2⟩
      rw [decide_eq_false h1]
      have hb := HB1.out.trans (hb2.mono (by simp))
      go_wp2
      go_ret2
      exact ⟨rfl, H.out.below hb, Fr.of_below hb⟩
  · rw [show mvOut M i v x = (M, 0, 1) from if_pos (by simp [h0])]
    have hB1 : Below w.heap.size w (w.alloc (.cells #[.int .i64 x.seg, .int .i64 x.frm, .int .i64 x.len, .int .i64 x.ver] 27)) := (Below.refl _ _).alloc (Nat.le_refl _) _
    have HB1 := hide hB1
    clear hm h hB1
    go_enter Try.func29, Try.ntmps29
    go_wp2_with fail
    refine (may_any _ _).mono ?_
    rintro e w1 ⟨rfl, rfl⟩
    rw [decide_eq_false h0]
    go_wp2
    go_ret2
    exact ⟨rfl, H.out.below HB1.out, Fr.of_below HB1.out⟩
/-- What Drop does. -/
def dpOut (M : Nat → Spot) (i v : Int) : (Nat → Spot) × Int :=
  if ¬ mayI i then (M, 1) else if (M i.toNat).ver = 0 then (M, 7) else if (M i.toNat).ver = v then (upd M i.toNat noSpot, 0) else (M, 10)
set_option maxHeartbeats 2000000 in
set_option maxRecDepth 100000 in
theorem drop_nil (i v : Int) (w : World) : Calls Try.prog 31 #[.pointer none, .int .i64 i, .int .i64 v] w fun e w' => e = .returned (.int .i64 1) ∧ w' = w := by
  go_enter Try.func31, Try.ntmps31
  go_wp2
  go_ret
  exact ⟨rfl, rfl⟩
set_option maxHeartbeats 2000000 in
set_option maxRecDepth 100000 in
theorem drop_any (g : Nat) (M : Nat → Spot) (i v : Int) (w : World) (h : IM w g M) :
    Calls Try.prog 31 #[.pointer (some ⟨g, 0, none⟩), .int .i64 i, .int .i64 v] w fun e w' => e = .returned (.int .i64 (dpOut M i v).2) ∧ IM w' g (dpOut M i v).1 ∧ Fr (fun k => k = g) w w' := by
  have H := hide h
  by_cases h0 : mayI i
  · obtain ⟨k, rfl⟩ : ∃ k : Nat, i = k := ⟨i.toNat, by have := h0.1; omega⟩
    have hk : k < 256 := by have := h0.2; omega
    obtain ⟨a, b, c, d⟩ := h.cells hk
    by_cases h1 : (M k).ver = 0
    · rw [show dpOut M k v = (M, 7) from by unfold dpOut; rw [if_neg (by simp [h0]), if_pos (by rw [Int.toNat_natCast]; exact h1)]]
      rw [h1] at d
      clear h a b c
      go_enter Try.func31, Try.ntmps31
      go_wp2_with fail
      refine (may_any _ _).mono ?_
      rintro e w1 ⟨rfl, rfl⟩
      rw [decide_eq_true h0]
      clear h0 h1
      go_wp2
      go_ret
      exact ⟨rfl, H.out, Fr.refl _ _⟩
    · have h1' : ((M k).ver == 0) = false := by simp [h1]
      by_cases h2 : (M k).ver = v
      · subst h2
        rw [show dpOut M k (M k).ver = (upd M k noSpot, 0) from by unfold dpOut; rw [if_neg (by simp [h0]), if_neg (by rw [Int.toNat_natCast]; exact h1), if_pos (by rw [Int.toNat_natCast]), Int.toNat_natCast]]
        clear h a b c
        go_enter Try.func31, Try.ntmps31
        go_wp2_with fail
        refine (may_any _ _).mono ?_
        rintro e w1 ⟨rfl, rfl⟩
        rw [decide_eq_true h0]
        clear h0 h1
        go_wp2_with (refine wpList_spot rfl (.tmp 31) (.tmp 28) rfl H.out hk noSpot rfl rfl ?_; intro w3 hI3 hf3; have HI3 := hide hI3; have HF3 := hide hf3; clear hI3 hf3)
        go_ret
        exact ⟨rfl, HI3.out, HF3.out⟩
      · have h2' : ((M k).ver == v) = false := by simp [h2]
        rw [show dpOut M k v = (M, 10) from by unfold dpOut; rw [if_neg (by simp [h0]), if_neg (by rw [Int.toNat_natCast]; exact h1), if_neg (by rw [Int.toNat_natCast]; exact h2)]]
        clear h a b c
        go_enter Try.func31, Try.ntmps31
        go_wp2_with fail
        refine (may_any _ _).mono ?_
        rintro e w1 ⟨rfl, rfl⟩
        rw [decide_eq_true h0]
        clear h0 h1 h2
        go_wp2
        go_ret
        exact ⟨rfl, H.out, Fr.refl _ _⟩
  · rw [show dpOut M i v = (M, 1) from if_pos h0]
    clear h
    go_enter Try.func31, Try.ntmps31
    go_wp2_with fail
    refine (may_any _ _).mono ?_
    rintro e w1 ⟨rfl, rfl⟩
    rw [decide_eq_false h0]
    go_wp2
    go_ret
    exact ⟨rfl, H.out, Fr.refl _ _⟩
/-- What Get gives. -/
def gtOut (M : Nat → Spot) (i : Int) : Spot × Bool := if ¬ mayI i ∨ (M i.toNat).ver = 0 then (noSpot, false) else (M i.toNat, true)
set_option maxHeartbeats 2000000 in
set_option maxRecDepth 100000 in
theorem get_nil (i : Int) (w : World) : Calls Try.prog 32 #[.pointer none, .int .i64 i] w fun e w' => e = .returned (.tuple #[.agg #[.int .i64 0, .int .i64 0, .int .i64 0, .int .i64 0], .bool false]) ∧ Below w.heap.size w w' := by
  go_enter Try.func32, Try.ntmps32
  go_wp2
  refine bodyPost_ret (res_ct rfl _ _ w.heap.size 27 _ (0, 0) _ rfl (obj_new _ _) Try.underlying27 rfl info27) rfl ⟨rfl, (Below.refl _ _).alloc (Nat.le_refl _) _⟩
set_option maxHeartbeats 2000000 in
set_option maxRecDepth 100000 in
theorem get_any (g : Nat) (M : Nat → Spot) (i : Int) (w : World) (h : IM w g M) :
    Calls Try.prog 32 #[.pointer (some ⟨g, 0, none⟩), .int .i64 i] w fun e w' => e = .returned (.tuple #[.agg #[.int .i64 (gtOut M i).1.seg, .int .i64 (gtOut M i).1.frm, .int .i64 (gtOut M i).1.len, .int .i64 (gtOut M i).1.ver], .bool (gtOut M i).2]) ∧ Below w.heap.size w w' := by
  have hB1 : Below w.heap.size w (w.alloc (.cells #[.int .i64 0, .int .i64 0, .int .i64 0, .int .i64 0] 27)) := (Below.refl _ _).alloc (Nat.le_refl _) _
  have H := hide (h.below hB1)
  have HB := hide hB1
  have hg := h.lt
  by_cases h0 : mayI i
  · obtain ⟨k, rfl⟩ : ∃ k : Nat, i = k := ⟨i.toNat, by have := h0.1; omega⟩
    have hk : k < 256 := by have := h0.2; omega
    obtain ⟨a, b, c, d⟩ := H.out.cells hk
    by_cases h1 : (M k).ver = 0
    · rw [show gtOut M k = (noSpot, false) from if_pos (.inr (by rw [Int.toNat_natCast]; exact h1))]
      rw [h1] at d
      clear h a b c hB1
      go_enter Try.func32, Try.ntmps32
      go_wp2_with fail
      refine (may_any _ _).mono ?_
      rintro e w1 ⟨rfl, rfl⟩
      rw [decide_eq_true h0]
      clear h0 h1
      go_wp2
      refine bodyPost_ret (res_ct rfl _ _ w.heap.size 27 _ (0, 0) _ rfl (obj_new _ _) Try.underlying27 rfl info27) rfl ⟨rfl, (Below.refl _ _).alloc (Nat.le_refl _) _⟩
    · have h1' : ((M k).ver == 0) = false := by simp [h1]
      rw [show gtOut M k = (M k, true) from by unfold gtOut; rw [if_neg (by rw [Int.toNat_natCast]; simp [h0, h1]), Int.toNat_natCast]]
      clear h hB1
      go_enter Try.func32, Try.ntmps32
      go_wp2_with fail
      refine (may_any _ _).mono ?_
      rintro e w1 ⟨rfl, rfl⟩
      rw [decide_eq_true h0]
      clear h0 h1
      go_wp2
      refine bodyPost_ret (res_ct rfl _ _ w.heap.size 27 _ (0, 0) _ rfl (obj_new _ _) Try.underlying27 rfl info27) rfl ⟨rfl, (Below.refl _ _).alloc (Nat.le_refl _) _⟩
  · rw [show gtOut M i = (noSpot, false) from if_pos (.inl h0)]
    clear h hB1
    go_enter Try.func32, Try.ntmps32
    go_wp2_with fail
    refine (may_any _ _).mono ?_
    rintro e w1 ⟨rfl, rfl⟩
    rw [decide_eq_false h0]
    go_wp2
    refine bodyPost_ret (res_ct rfl _ _ w.heap.size 27 _ (0, 0) _ rfl (obj_new _ _) Try.underlying27 rfl info27) rfl ⟨rfl, (Below.refl _ _).alloc (Nat.le_refl _) _⟩
end Go.Proofs.Ytljmaicobafgkaa
end
section
/- Chapter 25, imap: the reference's map, a value of 1024 cells. -/
namespace Go.Proofs.Ytljmaicobafgkaa
open Go.RowKit

theorem Rep.one {C : Array Value} {M : Nat → Spot} (r : Rep C M) : C.all (·.oneCell') = true := by
  rw [Array.all_eq_true]
  intro j hj
  obtain ⟨hs, hc⟩ := r
  obtain ⟨a, b, c, d⟩ := hc (j / 4) (by omega)
  have hj' : j % 4 < 4 := Nat.mod_lt _ (by decide)
  have hg : C[j]? = some C[j] := Array.getElem?_eq_getElem hj
  rcases Nat.lt_or_ge (j % 4) 1 with h | h
  · rw [show j / 4 * 4 = j from by omega, hg] at a
    simp only [Option.some.injEq] at a
    rw [a]
    rfl
  rcases Nat.lt_or_ge (j % 4) 2 with h' | h'
  · rw [show j / 4 * 4 + 1 = j from by omega, hg] at b
    simp only [Option.some.injEq] at b
    rw [b]
    rfl
  rcases Nat.lt_or_ge (j % 4) 3 with h'' | h''
  · rw [show j / 4 * 4 + 2 = j from by omega, hg] at c
    simp only [Option.some.injEq] at c
    rw [c]
    rfl
  · rw [show j / 4 * 4 + 3 = j from by omega, hg] at d
    simp only [Option.some.injEq] at d
    rw [d]
    rfl
theorem info30 : (Try.prog.info? 30).map (fun i => (i.zero, i.size)) = some (some (.agg zeros1024.toArray), 1024) := by kernel_rfl
theorem info169 : (Try.prog.info? 169).map (fun i => (i.zero, i.size)) = some (some (.agg zeros1024.toArray), 1024) := by kernel_rfl
theorem load30 {C : Array Value} {M : Nat → Spot} (r : Rep C M) {g : Nat} {W : World} (h : W.heap[g]? = some (.cells C 30 (0, 0))) : (Instr.loadAt 30 (.pointer (some ⟨g, 0, none⟩))).run Try.prog W = .ok (.agg C) W := by
  simp only [Instr.loadAt, Instr.sureAddr, Sem.run_bind, Sem.run_pure, Result.andThen_ok]
  exact run_loadVar_row W g 30 30 C (0, 0) _ h Try.underlying30 rfl (by rw [r.1]; exact (zero_of_info info30).2)
theorem store30 {C C' : Array Value} {M : Nat → Spot} (r : Rep C' M) (hs : C.size = 1024) {g : Nat} {W : World} (h : W.heap[g]? = some (.cells C 30 (0, 0))) : (Instr.storeAt 30 (.pointer (some ⟨g, 0, none⟩)) (.agg C')).run Try.prog W = .ok () (W.setRow g C') := by
  simp only [Instr.storeAt, Instr.sureAddr, Sem.run_bind, Sem.run_pure, Result.andThen_ok]
  exact run_storeVar_row W g 30 30 C C' h (by rw [r.1]; exact (zero_of_info info30).2) (by rw [hs, r.1]) r.one
theorem setRow_at {W : World} {g : Nat} {C C' : Array Value} {t : TypeId} (h : W.heap[g]? = some (.cells C t (0, 0))) : (W.setRow g C').heap[g]? = some (.cells C' t (0, 0)) := by
  simp [World.setRow, Array.getElem?_modify, h]
theorem setRow_far {W : World} {g k : Nat} {C' : Array Value} (h : k ≠ g) : (W.setRow g C').heap[k]? = W.heap[k]? := by
  simp [World.setRow, Array.getElem?_modify, Ne.symm h]
theorem setRow_size (W : World) (g : Nat) (C' : Array Value) : (W.setRow g C').heap.size = W.heap.size := by
  simp [World.setRow]
theorem setRow_below {B : Nat} {w W : World} (hb : Below B w W) {g : Nat} (hg : B ≤ g) (C' : Array Value) : Below B w (W.setRow g C') :=
  ⟨hb.os, hb.tape, hb.output, by rw [setRow_size]; exact hb.size, fun k hk => (setRow_far (by omega)).trans (hb.block k hk)⟩
end Go.Proofs.Ytljmaicobafgkaa
end
section
/- Chapter 25, imap: each. -/
namespace Go.Proofs.Ytljmaicobafgkaa
open Go.RowKit Go.Shelf
attribute [local go_sem] Oper.semAt_some

/-- The inodes below k that stand somewhere. -/
def entUp (M : Nat → Spot) (k : Nat) : List (Nat × Spot) := ((List.range k).map fun i => (i, M i)).filter fun p => decide (0 < p.2.ver)
theorem entUp_hit (M : Nat → Spot) {k : Nat} (h : 0 < (M k).ver) : entUp M (k + 1) = entUp M k ++ [(k, M k)] := by
  unfold entUp
  rw [List.range_succ, List.map_append, List.filter_append]
  simp [h]
theorem entUp_miss (M : Nat → Spot) {k : Nat} (h : ¬ 0 < (M k).ver) : entUp M (k + 1) = entUp M k := by
  unfold entUp
  rw [List.range_succ, List.map_append, List.filter_append]
  simp [h]
theorem entUp_len (M : Nat → Spot) (k : Nat) : (entUp M k).length ≤ k := by
  unfold entUp
  refine Nat.le_trans (List.length_filter_le _ _) ?_
  simp
theorem entUp_pre (M : Nat → Spot) (k : Nat) : ∀ j, entUp M k <+: entUp M (k + j)
  | 0 => List.prefix_refl _
  | j + 1 => by
    refine List.IsPrefix.trans (entUp_pre M k j) ?_
    by_cases h : 0 < (M (k + j)).ver
    · rw [← Nat.add_assoc, entUp_hit M h]
      exact List.prefix_append _ _
    · rw [← Nat.add_assoc, entUp_miss M h]
      exact List.prefix_refl _
theorem ext4 {C : Array Value} {M : Nat → Spot} (r : Rep C M) {k : Nat} (hk : k < 256) : C.extract (k * 4) (k * 4 + 4) = #[.int .i64 (M k).seg, .int .i64 (M k).frm, .int .i64 (M k).len, .int .i64 (M k).ver] := by
  obtain ⟨hs, hc⟩ := r
  obtain ⟨a, b, c, d⟩ := hc k hk
  apply Array.ext_getElem?
  intro j
  rw [Array.getElem?_extract]
  match j with
  | 0 => simpa [show 0 < min (k * 4 + 4) C.size - k * 4 from by omega] using a
  | 1 => simpa [show 1 < min (k * 4 + 4) C.size - k * 4 from by omega] using b
  | 2 => simpa [show 2 < min (k * 4 + 4) C.size - k * 4 from by omega] using c
  | 3 => simpa [show 3 < min (k * 4 + 4) C.size - k * 4 from by omega] using d
  | j + 4 =>
    rw [if_neg (by omega)]
    simp
theorem idx28 {C : Array Value} {M : Nat → Spot} (r : Rep C M) {k : Nat} (hk : k < 256) (W : World) : (Instr.index 28 (.agg C) (.int .i64 (k : Int))).run Try.prog W = .ok (.agg #[.int .i64 (M k).seg, .int .i64 (M k).frm, .int .i64 (M k).len, .int .i64 (M k).ver]) W := by
  have h2 : (0 : Int) ≤ (k : Int) ∧ (k : Int) < ((256 : Nat) : Int) := by omega
  have hx := ext4 r hk
  simp [Instr.index, asIntOf, run_underlying Try.underlying28, part, h2, hx]
  intro hc
  omega
theorem load28 {C : Array Value} {M : Nat → Spot} (r : Rep C M) {g : Nat} {W : World} (h : W.heap[g]? = some (.cells C 169 (0, 0))) : (Instr.loadAt 28 (.pointer (some ⟨g, 0, none⟩))).run Try.prog W = .ok (.agg C) W := by
  simp only [Instr.loadAt, Instr.sureAddr, Sem.run_bind, Sem.run_pure, Result.andThen_ok]
  exact run_loadVar_row W g 169 28 C (0, 0) _ h Try.underlying28 rfl (by rw [r.1]; kernel_rfl)
theorem wpIn_loadv {F : Fence} {n : Nat} {P : Program} {o : Oper} {a : Act} {w : World} {K : Act → World → Prop} {Q : Exit → Act → World → Prop} (ty : TypeId) (x : Operand) (ho : o.op = .load ty x) {p v : Value} (hx : a.eval x = p)
    (hrun : (Instr.loadAt ty p).run P w = .ok v w) (h : K (a.put o.dst v) w) : o.wpIn F n P a w K Q := by
  refine ⟨fun f hf => ?_, ?_⟩
  · simp [Oper.about, ho] at hf
  · rw [Oper.semAt_plain F a.eval o (by rw [ho]; intro c h; cases h)]
    unfold execOp
    simp only [ho, hx, Sem.run_bind, hrun, Result.andThen_ok, Sem.run_pure]
    exact h
set_option maxRecDepth 100000 in
set_option maxHeartbeats 2000000 in
theorem each1_in (F : Fence) (n : Nat) (h160 : F.fn 160) (hro : F.round = none) (hn : 1 ≤ n) (l Bm n₀ g : Nat) (M : Nat → Spot) (J Jx : List (Nat × Spot) → World → Prop)
    (hY : ∀ pre x W, J pre W → pre.length < 256 → YieldAt F (n - 1) Try.prog l #[.int .i64 (x.1 : Int), .agg #[.int .i64 x.2.seg, .int .i64 x.2.frm, .int .i64 x.2.len, .int .i64 x.2.ver]] W fun e W' =>
      (e = .returned (.bool true) ∧ J (pre ++ [x]) W' ∧ Below n₀ W W') ∨ (e = .returned (.bool false) ∧ Jx (pre ++ [x]) W'))
    (W : World) (hJ : AbidesFrom W.heap.size J) (hBm : W.cell? ⟨Bm, 0, none⟩ = some (.pointer (some ⟨g, 0, none⟩))) (hI : IM W g M) (h0 : J [] W) :
    CallsIn F n Try.prog 160 #[.func (.yield l) #[] #[], .pointer (some ⟨Bm, 0, none⟩)] W fun e W' => (∃ v, e = .returned v) ∧
      ((∃ ys, ys = entUp M 256 ∧ J ys W') ∨ (∃ pre, pre <+: entUp M 256 ∧ Jx pre W')) := by
  obtain ⟨C, hC, r⟩ := hI
  have hld := load28 r hC
  refine callsIn_of_wp Try.func160 rfl h160 ?_ hro
  simp only [Try.ntmps160, List.size_toArray, List.length_cons, List.length_nil, Nat.reduceAdd, Nat.reduceSub, Array.replicate_succ, Array.replicate_zero, List.push_toArray, List.append_toArray, List.nil_append, List.cons_append]
  gi_wp2
  refine wpIn_loadv 28 (.tmp 9) rfl rfl hld ?_
  gi_wp2
  clear hld hBm hC
  gi_loopw [11] (fun iv wr => ∃ k : Nat, k ≤ 256 ∧ iv = .int .i64 k ∧ J (entUp M k) wr ∧ Below W.heap.size W W) (fun iv _ => 256 - (intOf iv).toNat)
  case atStart => exact ⟨0, by omega, rfl, h0, Below.refl _ _⟩
  case round =>
    obtain ⟨k, hk, rfl, hJs, _⟩ := hrel
    rcases Nat.lt_or_ge k 256 with hlt | hge
    · have hix := idx28 r hlt
      have hJ' : J (entUp M k) (wr.alloc (.cells #[.int .i64 (M k).seg, .int .i64 (M k).frm, .int .i64 (M k).len, .int .i64 (M k).ver] 27)) := hJ _ _ _ none hJs (World.grownBy_alloc _ _ none) (fun r e => by cases e)
      by_cases hv : 0 < (M k).ver
      · obtain ⟨fn, tmps, assign, body, hy, hR⟩ := hY _ (k, M k) _ hJ' (Nat.lt_of_le_of_lt (entUp_len M k) hlt)
        dsimp only at hy
        gi_wp2
        refine hR.mono ?_
        rintro e W3 (⟨rfl, hJ3, hk3⟩ | ⟨rfl, hJx3⟩)
        · gi_wp2
          go_roundw
          case rel => exact ⟨k + 1, by omega, by simp, by rw [entUp_hit M hv]; exact hJ3, Below.refl _ _⟩
          case measure => simp [intOf]; omega
        · gi_wp2
          refine bodyPost_ret (results_none rfl _ _ _) rfl ?_
          refine ⟨⟨_, rfl⟩, .inr ⟨_, ?_, hJx3⟩⟩
          have h := entUp_pre M (k + 1) (255 - k)
          rw [show k + 1 + (255 - k) = 256 from by omega, entUp_hit M hv] at h
          exact h
      · gi_wp2
        refine ⟨fun _ h => (by cases h), ?_⟩
        gi_wp2
        go_roundw
        case rel => exact ⟨k + 1, by omega, by simp, by rw [entUp_miss M (k := k) (by omega)]; exact hJ', Below.refl _ _⟩
        case measure => simp [intOf]; omega
    · obtain rfl : k = 256 := by omega
      gi_wp2
      go_end0
      exact ⟨⟨_, rfl⟩, .inl ⟨_, rfl, hJs⟩⟩
set_option maxHeartbeats 1000000 in
theorem each_in (F : Fence) (n : Nat) (h106 : F.fn 106) (hro : F.round = none) (p0 : Option Addr) (w : World) :
    CallsIn F n Try.prog 106 #[.pointer p0] w fun e w' => e = .returned (.func (.func 160) #[] #[.pointer (some ⟨w.heap.size, 0, none⟩)]) ∧ w' = w.alloc (.cells #[.pointer p0] 24) := by
  refine callsIn_of_wp Try.func106 rfl h106 ?_ hro
  simp only [Try.ntmps106, List.size_toArray, List.length_cons, List.length_nil, Nat.reduceAdd, Nat.reduceSub, Array.replicate_succ, Array.replicate_zero, List.push_toArray, List.append_toArray, List.nil_append, List.cons_append]
  gi_wp2
  go_ret
  exact ⟨rfl, rfl⟩
def encP (x : Nat × Spot) : Array Value := #[.int .i64 (x.1 : Int), .agg #[.int .i64 x.2.seg, .int .i64 x.2.frm, .int .i64 x.2.len, .int .i64 x.2.ver]]
theorem each_stops (F : Fence) (n : Nat) (h160 : F.fn 160) (hro : F.round = none) (hn : 1 ≤ n) (Bm n₀ g : Nat) (M : Nat → Spot) (w : World) (hBm : Bm < w.heap.size)
    (hc : w.cell? ⟨Bm, 0, none⟩ = some (.pointer (some ⟨g, 0, none⟩))) (hI : IM w g M) :
    SeqStopsK F n Try.prog 160 #[.pointer (some ⟨Bm, 0, none⟩)] encP (Below n₀) (fun ys => ys = entUp M 256) (fun pre => pre <+: entUp M 256) 256 w := fun l J Jx W hW hJ _ hY h0 =>
  each1_in F n h160 hro hn l Bm n₀ g M J Jx hY W hJ ((hW.cell (p := ⟨Bm, 0, none⟩) hBm).trans hc) (hI.below hW) h0
end Go.Proofs.Ytljmaicobafgkaa
end
