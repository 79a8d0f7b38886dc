/- Chapter 07, timers: container/heap's Fix, Push, Pop, Remove, over a pile. -/
import Derived.Test.YthcnoamgkkbkcaaTiV
namespace Go.Proofs.Ythcnoamgkkbkcaa
open Go.RowKit

theorem ppush_pa {w : World} {B p c : Nat} {v : Value} {l : List Tm} (h : PA w B p c v l) (t : Tm) (hn : ∀ x ∈ l, x.id ≠ t.id) (hlen : l.length ≤ 65536) (hB : B ≤ w.heap.size) :
    Calls Try.prog 144 #[.pointer (some ⟨p, 0, none⟩), .iface 153 (.agg #[.int .i64 t.id, .int .i64 t.at_])] w fun e w' => e = .returned (.tuple #[]) ∧ (∃ v', PA w' B p c v' (l ++ [t]) ∧ (v'.ownBlock = v.ownBlock ∨ ∃ k, v'.ownBlock = some k ∧ w.heap.size ≤ k)) ∧ Fr (fun k => v.ownBlock = some k ∨ k = p ∨ k = c) w w' := by
  obtain ⟨f, h1, h2⟩ := h
  refine (ppush_any h1 h2 t hn hlen hB).mono ?_
  rintro e w' ⟨rfl, ⟨v', f', a1, a2, a3⟩, a4⟩
  exact ⟨rfl, ⟨v', ⟨f', a1, a2⟩, a3⟩, a4⟩
theorem ppop_pa {w : World} {B p c : Nat} {v : Value} {l : List Tm} (h : PA w B p c v l) (h0 : 0 < l.length) :
    Calls Try.prog 143 #[.pointer (some ⟨p, 0, none⟩)] w fun e w' => e = .returned (.iface 153 (.agg #[.int .i64 (tat l (l.length - 1)).id, .int .i64 (tat l (l.length - 1)).at_])) ∧ (∃ v', PA w' B p c v' (l.take (l.length - 1)) ∧ v'.ownBlock = v.ownBlock) ∧ Fr (fun k => k = p ∨ k = c) w w' := by
  obtain ⟨f, h1, h2⟩ := h
  refine (ppop_any h1 h2 h0).mono ?_
  rintro e w' ⟨rfl, ⟨v', f', a1, a2, a3⟩, a4⟩
  exact ⟨rfl, ⟨v', ⟨f', a1, a2⟩, a3⟩, a4⟩
theorem plen_pa {w : World} {B p c : Nat} {v : Value} {l : List Tm} (h : PA w B p c v l) : Calls Try.prog 141 #[.pointer (some ⟨p, 0, none⟩)] w fun e w' => e = .returned (.int .i64 (l.length : Int)) ∧ w = w' := by
  obtain ⟨f, h1, h2⟩ := h
  exact plen_any h1
set_option maxHeartbeats 4000000 in
set_option maxRecDepth 100000 in
theorem hfix_any {w : World} {B p c : Nat} {v : Value} {l : List Tm} (h : PA w B p c v l) (hm : l.length ≤ 65536) (i : Nat) (hi : i < l.length) (hd : DPre l l.length i i) :
    Calls Try.prog 77 #[.iface 141 (.pointer (some ⟨p, 0, none⟩)), .int .i64 (i : Int)] w fun e w' => e = .returned (.tuple #[]) ∧ ∃ l', HpI l' l.length ∧ Sam l.length l l' ∧ PA w' B p c v l' ∧ Fr (fun k => v.ownBlock = some k ∨ k = c) w w' := by
  have HL := hide (plen_pa h)
  have HD := hide (down_any h (Nat.le_refl _) hm i (by omega) hd)
  have HU := hide (fun (w' : World) (hp : PA w' B p c v l) (hu : UPre l l.length i) => up_any hp (Nat.le_refl _) hm i hi hu)
  clear h hd
  go_enter Try.func77, Try.ntmps77
  go_wp2_with fail
  refine upon_meth 141 (.pointer (some ⟨p, 0, none⟩)) (by kernel_rfl) ?_
  go_wp2_with fail
  refine HL.out.mono ?_
  rintro e w1 ⟨rfl, rfl⟩
  go_wp2_with fail
  refine HD.out.mono ?_
  rintro e w1 ⟨b, rfl, l', hs, hp, hf, ht, hff⟩
  rcases b with _ | _
  · obtain ⟨rfl, hu⟩ := hff rfl
    have HU2 := hide (HU.out w1 hp hu)
    have HF := hide hf
    clear hs hp hf ht hff hu
    go_wp2_with fail
    refine HU2.out.mono ?_
    rintro e w2 ⟨rfl, l2, a1, a2, a3, a4⟩
    have HFIN := hide (show ∃ l'', HpI l'' l'.length ∧ Sam l'.length l' l'' ∧ PA w2 B p c v l'' ∧ Fr (fun k => v.ownBlock = some k ∨ k = c) w w2 from ⟨l2, a1, a2, a3, HF.out.trans a4 (fun _ _ e => e)⟩)
    clear a1 a2 a3 a4
    go_wp2
    go_end0
    exact ⟨rfl, HFIN.out⟩
  · have HFIN := hide (show ∃ l', HpI l' l.length ∧ Sam l.length l l' ∧ PA w1 B p c v l' ∧ Fr (fun k => v.ownBlock = some k ∨ k = c) w w1 from ⟨l', ht rfl, hs, hp, hf⟩)
    clear hs hp hf ht hff
    go_wp2
    go_end0
    exact ⟨rfl, HFIN.out⟩
set_option maxHeartbeats 4000000 in
set_option maxRecDepth 100000 in
theorem hpush_any {w : World} {B p c : Nat} {v : Value} {l : List Tm} (h : PA w B p c v l) (hh : HpI l l.length) (t : Tm) (hn : ∀ x ∈ l, x.id ≠ t.id) (hlen : l.length ≤ 65535) (hB : B ≤ w.heap.size) :
    Calls Try.prog 78 #[.iface 141 (.pointer (some ⟨p, 0, none⟩)), .iface 153 (.agg #[.int .i64 t.id, .int .i64 t.at_])] w fun e w' => e = .returned (.tuple #[]) ∧ (∃ v' l', PA w' B p c v' l' ∧ HpI l' l'.length ∧ l'.Perm (l ++ [t]) ∧ (v'.ownBlock = v.ownBlock ∨ ∃ k, v'.ownBlock = some k ∧ w.heap.size ≤ k)) ∧ Fr (fun k => v.ownBlock = some k ∨ k = p ∨ k = c) w w' := by
  have HP := hide (ppush_pa h t hn (by omega) hB)
  have HU := hide (fun (w' : World) (v' : Value) (hp : PA w' B p c v' (l ++ [t])) => up_any hp (n := l.length + 1) (by simp) (by simp; omega) l.length (by omega) (hh.push t))
  have HLL := hide (show (((l ++ [t]).length : Nat) : Int) - 1 = (l.length : Int) by simp)
  have hll : (((l ++ [t]).length : Nat) : Int) ≤ 65536 := by simp; omega
  clear h hh hn
  go_enter Try.func78, Try.ntmps78
  go_wp2_with fail
  refine upon_meth 144 (.pointer (some ⟨p, 0, none⟩)) (by kernel_rfl) ?_
  go_wp2_with fail
  refine HP.out.mono ?_
  rintro e w1 ⟨rfl, ⟨v', hp, hown⟩, hf⟩
  have HL := hide (plen_pa hp)
  have HU2 := hide (HU.out w1 v' hp)
  have HOWN := hide hown
  have HF := hide hf
  clear hp hown hf
  go_wp2_with fail
  refine upon_meth 141 (.pointer (some ⟨p, 0, none⟩)) (by kernel_rfl) ?_
  go_wp2_with fail
  refine HL.out.mono ?_
  rintro e w2 ⟨rfl, rfl⟩
  have hll2 := HLL.out
  go_wp2_with fail
  refine HU2.out.mono ?_
  rintro e w2 ⟨rfl, l2, a1, a2, a3, a4⟩
  have hl2 : l2.length = l.length + 1 := by rw [a2.2.1]; simp
  have HFIN := hide (show (∃ v' l', PA w2 B p c v' l' ∧ HpI l' l'.length ∧ l'.Perm (l ++ [t]) ∧ (v'.ownBlock = v.ownBlock ∨ ∃ k, v'.ownBlock = some k ∧ w.heap.size ≤ k)) ∧ Fr (fun k => v.ownBlock = some k ∨ k = p ∨ k = c) w w2 from
    ⟨⟨v', l2, a3, by rw [hl2]; exact a1, a2.1, HOWN.out⟩, HF.out.trans a4 (fun j hj e => by
      rcases e with e | e
      · rcases HOWN.out with h1 | ⟨k, h1, h2⟩
        · exact .inl (by rw [← h1]; exact e)
        · rw [h1] at e
          cases e
          omega
      · exact .inr (.inr e))⟩)
  clear a1 a2 a3 a4 hl2 hll2
  go_wp2
  go_end0
  exact ⟨rfl, HFIN.out⟩
theorem take_last {l : List Tm} {m : Nat} (h : l.length = m + 1) : l.take m ++ [tat l m] = l := by
  rw [tat_eq (by omega)]
  have := List.take_append_getElem (l := l) (i := m) (by omega)
  rw [this, List.take_of_length_le (by omega)]
theorem tat_take {l : List Tm} {m k : Nat} (hk : k < m) : tat (l.take m) k = tat l k := by
  unfold tat
  rw [List.getD_eq_getElem?_getD, List.getElem?_take, if_pos hk, List.getD_eq_getElem?_getD]
/-- What is left behind: without one. -/
def Lft (w : World) (B p c : Nat) (v : Value) (l : List Tm) (i : Nat) (w' : World) : Prop :=
  (∃ v' l', PA w' B p c v' l' ∧ HpI l' l'.length ∧ (l' ++ [tat l i]).Perm l ∧ v'.ownBlock = v.ownBlock) ∧ Fr (fun k => v.ownBlock = some k ∨ k = p ∨ k = c) w w'
theorem lft_end {w w1 w2 : World} {B p c m i : Nat} {v v' : Value} {l l1 : List Tm} (hl : l1.length = m + 1) (hh : HpI l1 m) (hp : l1.Perm l) (hi : tat l1 m = tat l i) (h1 : Fr (fun k => v.ownBlock = some k ∨ k = c) w w1) (h2 : PA w2 B p c v' (l1.take (l1.length - 1))) (ho : v'.ownBlock = v.ownBlock) (h3 : Fr (fun k => k = p ∨ k = c) w1 w2) :
    Lft w B p c v l i w2 := by
  rw [hl, show m + 1 - 1 = m from rfl] at h2
  refine ⟨⟨v', l1.take m, h2, ?_, ?_, ho⟩, (h1.mono (fun k _ e => e.elim .inl (fun e => .inr (.inr e)))).trans h3 (fun k _ e => .inr e)⟩
  · rw [List.length_take, hl, Nat.min_eq_left (by omega)]
    exact hh.congr (fun k hk => tat_take hk)
  · rw [← hi, take_last hl]
    exact hp
set_option maxHeartbeats 4000000 in
set_option maxRecDepth 100000 in
theorem hpop_any {w : World} {B p c : Nat} {v : Value} {l : List Tm} (h : PA w B p c v l) (hh : HpI l l.length) (hlen : l.length ≤ 65536) (h0 : 0 < l.length) :
    Calls Try.prog 80 #[.iface 141 (.pointer (some ⟨p, 0, none⟩))] w fun e w' => e = .returned (.iface 153 (.agg #[.int .i64 (tat l 0).id, .int .i64 (tat l 0).at_])) ∧ Lft w B p c v l 0 w' := by
  obtain ⟨m, hm⟩ : ∃ m, l.length = m + 1 := ⟨l.length - 1, by omega⟩
  have HL := hide (plen_pa h)
  have HS := hide (swap_pa h 0 m (by omega) (by omega))
  have hdp : DPre (swp l 0 m) m 0 0 := by
    rcases Nat.eq_zero_or_pos m with e | e
    · subst e
      exact ⟨fun k _ h2 => by omega, fun k _ h2 => by omega⟩
    · exact (hm ▸ hh : HpI l (m + 1)).take (by omega) e
  have HD := hide (fun (w' : World) (hp : PA w' B p c v (swp l 0 m)) => down_any hp (n := m) (by rw [swp_len]; omega) (by rw [swp_len]; exact hlen) 0 (by omega) hdp)
  have HX := hide (show tat (swp l 0 m) m = tat l 0 ∧ (swp l 0 m).Perm l ∧ (swp l 0 m).length = m + 1 from ⟨by rw [swp_at (by omega) (by omega), if_pos rfl], swp_perm (by omega) (by omega), by rw [swp_len]; exact hm⟩)
  have hmi : ((l.length : Nat) : Int) - 1 = (m : Int) := by omega
  have hmb : ((l.length : Nat) : Int) ≤ 65536 := by omega
  clear h hh hdp hm hlen h0
  go_enter Try.func80, Try.ntmps80
  go_wp2_with fail
  refine upon_meth 141 (.pointer (some ⟨p, 0, none⟩)) (by kernel_rfl) ?_
  go_wp2_with fail
  refine HL.out.mono ?_
  rintro e w1 ⟨rfl, rfl⟩
  go_wp2_with fail
  refine upon_meth 145 (.pointer (some ⟨p, 0, none⟩)) (by kernel_rfl) ?_
  go_wp2_with fail
  refine HS.out.mono ?_
  rintro e w2 ⟨rfl, hp2, hf2⟩
  have HD2 := hide (HD.out w2 hp2)
  have HF2 := hide hf2
  clear hp2 hf2
  go_wp2_with fail
  refine HD2.out.mono ?_
  rintro e w3 ⟨b, rfl, l', hs, hp, hf, ht, hff⟩
  have hhp : HpI l' m := by
    rcases b with _ | _
    · obtain ⟨e1, hu⟩ := hff rfl
      rw [e1]
      exact hu.done0
    · exact ht rfl
  have hl' : l'.length = m + 1 := hs.2.1.trans HX.out.2.2
  have hlast : tat l' m = tat l 0 := (hs.2.2 m (Nat.le_refl _)).trans HX.out.1
  have HPO := hide (ppop_pa hp (by omega))
  rw [hl', show m + 1 - 1 = m from rfl, hlast] at HPO
  have HG := hide (show l'.length = m + 1 ∧ HpI l' m ∧ l'.Perm l ∧ tat l' m = tat l 0 ∧ Fr (fun k => v.ownBlock = some k ∨ k = c) w w3 from ⟨hl', hhp, hs.1.trans HX.out.2.1, hlast, HF2.out.trans hf (fun _ _ e => e)⟩)
  clear hs hp hf ht hff hhp hl' hlast
  go_wp2_with fail
  refine upon_meth 143 (.pointer (some ⟨p, 0, none⟩)) (by kernel_rfl) ?_
  go_wp2_with fail
  refine HPO.out.mono ?_
  rintro e w4 ⟨rfl, ⟨v', a1, a2⟩, a3⟩
  have HFIN := hide (lft_end HG.out.1 HG.out.2.1 HG.out.2.2.1 HG.out.2.2.2.1 HG.out.2.2.2.2 (by rw [HG.out.1]; exact a1) a2 a3)
  clear a1 a2 a3
  go_wp2
  go_ret
  exact ⟨rfl, HFIN.out⟩
set_option maxHeartbeats 4000000 in
set_option maxRecDepth 100000 in
theorem hremove_any {w : World} {B p c : Nat} {v : Value} {l : List Tm} (h : PA w B p c v l) (hh : HpI l l.length) (hlen : l.length ≤ 65536) (i : Nat) (hi : i < l.length) :
    Calls Try.prog 81 #[.iface 141 (.pointer (some ⟨p, 0, none⟩)), .int .i64 (i : Int)] w fun e w' => e = .returned (.iface 153 (.agg #[.int .i64 (tat l i).id, .int .i64 (tat l i).at_])) ∧ Lft w B p c v l i w' := by
  obtain ⟨m, hm⟩ : ∃ m, l.length = m + 1 := ⟨l.length - 1, by omega⟩
  have HL := hide (plen_pa h)
  have hmi : ((l.length : Nat) : Int) - 1 = (m : Int) := by omega
  have hmb : ((l.length : Nat) : Int) ≤ 65536 := by omega
  rw [hm] at hh
  by_cases him : m = i
  · subst him
    have HPO := hide (ppop_pa h (by omega))
    rw [show l.length - 1 = m by omega] at HPO
    have HG := hide (show l.length = m + 1 ∧ HpI l m ∧ l.Perm l ∧ Fr (fun k => v.ownBlock = some k ∨ k = c) w w from ⟨hm, hh.less (by omega), .refl _, Fr.refl _ _⟩)
    clear h hh hm hlen hi
    go_enter Try.func81, Try.ntmps81
    go_wp2_with fail
    refine upon_meth 141 (.pointer (some ⟨p, 0, none⟩)) (by kernel_rfl) ?_
    go_wp2_with fail
    refine HL.out.mono ?_
    rintro e w1 ⟨rfl, rfl⟩
    go_wp2_with fail
    refine upon_meth 143 (.pointer (some ⟨p, 0, none⟩)) (by kernel_rfl) ?_
    go_wp2_with fail
    refine HPO.out.mono ?_
    rintro e w4 ⟨rfl, ⟨v', a1, a2⟩, a3⟩
    have HFIN := hide (lft_end HG.out.1 HG.out.2.1 HG.out.2.2.1 rfl HG.out.2.2.2 (by rw [HG.out.1]; exact a1) a2 a3)
    clear a1 a2 a3
    go_wp2
    go_ret
    exact ⟨rfl, HFIN.out⟩
  · have him2 : ((m : Int) != (i : Int)) = true := by
      have : (m : Int) ≠ (i : Int) := by omega
      simpa using this
    have HS := hide (swap_pa h i m hi (by omega))
    have hdp : DPre (swp l i m) m i i := hh.take (by omega) (by omega)
    have HD := hide (fun (w' : World) (hp : PA w' B p c v (swp l i m)) => down_any hp (n := m) (by rw [swp_len]; omega) (by rw [swp_len]; exact hlen) i (by omega) hdp)
    have HU := hide (fun (w' : World) (hp : PA w' B p c v (swp l i m)) (hu : UPre (swp l i m) m i) => up_any hp (n := m) (by rw [swp_len]; omega) (by rw [swp_len]; exact hlen) i (by omega) hu)
    have HX := hide (show tat (swp l i m) m = tat l i ∧ (swp l i m).Perm l ∧ (swp l i m).length = m + 1 from ⟨by rw [swp_at hi (by omega), if_pos rfl], swp_perm hi (by omega), by rw [swp_len]; exact hm⟩)
    clear h hh hdp hm hlen hi him
    go_enter Try.func81, Try.ntmps81
    go_wp2_with fail
    refine upon_meth 141 (.pointer (some ⟨p, 0, none⟩)) (by kernel_rfl) ?_
    go_wp2_with fail
    refine HL.out.mono ?_
    rintro e w1 ⟨rfl, rfl⟩
    go_wp2_with fail
    refine upon_meth 145 (.pointer (some ⟨p, 0, none⟩)) (by kernel_rfl) ?_
    go_wp2_with fail
    refine HS.out.mono ?_
    rintro e w2 ⟨rfl, hp2, hf2⟩
    have HD2 := hide (HD.out w2 hp2)
    have HF2 := hide hf2
    clear hp2 hf2
    go_wp2_with fail
    refine HD2.out.mono ?_
    rintro e w3 ⟨b, rfl, l', hs, hp, hf, ht, hff⟩
    rcases b with _ | _
    · obtain ⟨e1, hu⟩ := hff rfl
      subst e1
      have HU2 := hide (HU.out w3 hp hu)
      have HF3 := hide (HF2.out.trans hf (fun _ _ e => e))
      clear hs hp hf ht hff hu
      go_wp2_with fail
      refine HU2.out.mono ?_
      rintro e w4 ⟨rfl, l2, a1, a2, a3, a4⟩
      have hl' : l2.length = m + 1 := a2.2.1.trans HX.out.2.2
      have hlast : tat l2 m = tat l i := (a2.2.2 m (Nat.le_refl _)).trans HX.out.1
      have HPO := hide (ppop_pa a3 (by omega))
      rw [hl', show m + 1 - 1 = m from rfl, hlast] at HPO
      have HG := hide (show l2.length = m + 1 ∧ HpI l2 m ∧ l2.Perm l ∧ tat l2 m = tat l i ∧ Fr (fun k => v.ownBlock = some k ∨ k = c) w w4 from ⟨hl', a1, a2.1.trans HX.out.2.1, hlast, HF3.out.trans a4 (fun _ _ e => e)⟩)
      clear a1 a2 a3 a4 hl' hlast
      go_wp2_with fail
      refine upon_meth 143 (.pointer (some ⟨p, 0, none⟩)) (by kernel_rfl) ?_
      go_wp2_with fail
      refine HPO.out.mono ?_
      rintro e w5 ⟨rfl, ⟨v', a1, a2⟩, a3⟩
      have HFIN := hide (lft_end HG.out.1 HG.out.2.1 HG.out.2.2.1 HG.out.2.2.2.1 HG.out.2.2.2.2 (by rw [HG.out.1]; exact a1) a2 a3)
      clear a1 a2 a3
      go_wp2
      go_ret
      exact ⟨rfl, HFIN.out⟩
    · have hl' : l'.length = m + 1 := hs.2.1.trans HX.out.2.2
      have hlast : tat l' m = tat l i := (hs.2.2 m (Nat.le_refl _)).trans HX.out.1
      have HPO := hide (ppop_pa hp (by omega))
      rw [hl', show m + 1 - 1 = m from rfl, hlast] at HPO
      have HG := hide (show l'.length = m + 1 ∧ HpI l' m ∧ l'.Perm l ∧ tat l' m = tat l i ∧ Fr (fun k => v.ownBlock = some k ∨ k = c) w w3 from ⟨hl', ht rfl, hs.1.trans HX.out.2.1, hlast, HF2.out.trans hf (fun _ _ e => e)⟩)
      clear hs hp hf ht hff hl' hlast
      go_wp2_with fail
      refine upon_meth 143 (.pointer (some ⟨p, 0, none⟩)) (by kernel_rfl) ?_
      go_wp2_with fail
      refine HPO.out.mono ?_
      rintro e w5 ⟨rfl, ⟨v', a1, a2⟩, a3⟩
      have HFIN := hide (lft_end HG.out.1 HG.out.2.1 HG.out.2.2.1 HG.out.2.2.2.1 HG.out.2.2.2.2 (by rw [HG.out.1]; exact a1) a2 a3)
      clear a1 a2 a3
      go_wp2
      go_ret
      exact ⟨rfl, HFIN.out⟩
end Go.Proofs.Ythcnoamgkkbkcaa
