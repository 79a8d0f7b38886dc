/- Chapter 07, timers: New, Len, Next, Set, Stop. -/
import Derived.Test.YthcnoamgkkbkcaaTiX
import Derived.Test.YthcnoamgkkbkcaaTiL
namespace Go.Proofs.Ythcnoamgkkbkcaa
open Go.RowKit

/-- Timers in memory: t, the pile p, its map c, its slice v; x: what is set, in order. -/
def TX (w : World) (B t p c : Nat) (v : Value) (x : List Tm) : Prop :=
  w.heap[t]? = some (.cells #[.pointer (some ⟨p, 0, none⟩)] 151 (0, 0)) ∧ (∃ l, PA w B p c v l ∧ HpI l l.length ∧ l.Perm x) ∧ B ≤ t ∧ B ≤ p ∧ B ≤ c
theorem TX.below {w w' : World} {B t p c : Nat} {v : Value} {x : List Tm} (h : TX w B t p c v x) (hb : Below w.heap.size w w') : TX w' B t p c v x := by
  obtain ⟨h1, ⟨l, h2, h3, h4⟩, h5⟩ := h
  exact ⟨obj_below h1 hb, ⟨l, h2.below hb, h3, h4⟩, h5⟩
theorem TX.lt {w : World} {B t p c : Nat} {v : Value} {x : List Tm} (h : TX w B t p c v x) : t < w.heap.size ∧ p < w.heap.size ∧ c < w.heap.size := by
  obtain ⟨h1, ⟨l, ⟨f, h2, -⟩, -⟩, -⟩ := h
  exact ⟨obj_lt h1, h2.lt.1, h2.lt.2⟩
/-- The blocks are apart. -/
theorem TX.apart {w : World} {B t p c : Nat} {v : Value} {x : List Tm} (h : TX w B t p c v x) : t ≠ p ∧ t ≠ c ∧ p ≠ c ∧ ∀ q, v.ownBlock = some q → q ≠ t ∧ q ≠ p ∧ q ≠ c ∧ B ≤ q ∧ q < w.heap.size := by
  obtain ⟨h1, ⟨l, ⟨f, h2, -⟩, -⟩, -⟩ := h
  refine ⟨fun e => ?_, fun e => ?_, h2.pc, fun q hq => ?_⟩
  · subst e
    have := h2.1
    rw [h1] at this
    simp only [Option.some.injEq, Obj.cells.injEq] at this
    exact absurd this.2.1 (by decide)
  · subst e
    obtain ⟨es, k, h3⟩ := MK.mp_obj h2.2.2
    rw [h1] at h3
    cases h3
  · obtain ⟨hB, hlt, cs, h7⟩ := EK.row_typed h2.2.1 hq
    refine ⟨fun e => ?_, (h2.vne hq).1, (h2.vne hq).2, hB, hlt⟩
    subst e
    rw [h1] at h7
    simp only [Option.some.injEq, Obj.cells.injEq] at h7
    exact absurd h7.2.1 (by decide)
theorem tnew_any (w : World) : Calls Try.prog 44 #[] w fun e w' => ∃ t p c, e = .returned (.pointer (some ⟨t, 0, none⟩)) ∧ TX w' w.heap.size t p c (.slice none 0 0) [] ∧ Below w.heap.size w w' := by
  have hmm : ∀ W : World, (Instr.makeMap 142 none).run Try.prog W = .ok (.map (some W.heap.size)) (W.alloc (.map #[] 0)) := fun W => run_makeMap (P := Try.prog) 142 W
  have hs1 : (w.alloc (.map #[] 0)).heap.size = w.heap.size + 1 := by simp
  have hs2 : ((w.alloc (.map #[] 0)).alloc (.cells #[.slice none 0 0, .map (some w.heap.size), byT] 149)).heap.size = w.heap.size + 1 + 1 := by simp
  have HD := hide (show TX (((w.alloc (.map #[] 0)).alloc (.cells #[.slice none 0 0, .map (some w.heap.size), byT] 149)).alloc (.cells #[.pointer (some ⟨w.heap.size + 1, 0, none⟩)] 151)) w.heap.size (w.heap.size + 1 + 1) (w.heap.size + 1) w.heap.size (.slice none 0 0) [] from by
    refine ⟨?_, ⟨[], ⟨fun _ => none, ⟨?_, EK.row_nil _ _, MK.mp_new (clock := 0) (obj_alloc (obj_alloc (obj_new w _) _) _)⟩, fun id v => ?_⟩, fun k _ h => by simp at h, .nil⟩, by omega, by omega, by omega⟩
    · have := obj_new ((w.alloc (.map #[] 0)).alloc (.cells #[.slice none 0 0, .map (some w.heap.size), byT] 149)) (.cells #[.pointer (some ⟨w.heap.size + 1, 0, none⟩)] 151)
      rw [hs2] at this
      exact this
    · have := obj_alloc (obj_new (w.alloc (.map #[] 0)) (.cells #[.slice none 0 0, .map (some w.heap.size), byT] 149)) (.cells #[.pointer (some ⟨w.heap.size + 1, 0, none⟩)] 151)
      rw [hs1] at this
      exact this
    · constructor
      · intro e
        cases e
      · rintro ⟨k, hk, -⟩
        simp at hk)
  have HB := hide (show Below w.heap.size w (((w.alloc (.map #[] 0)).alloc (.cells #[.slice none 0 0, .map (some w.heap.size), byT] 149)).alloc (.cells #[.pointer (some ⟨w.heap.size + 1, 0, none⟩)] 151)) from (((Below.refl _ _).alloc (Nat.le_refl _) _).alloc (by rw [hs1]; omega) _).alloc (by rw [hs2]; omega) _)
  unfold byT at HD HB
  clear hs1 hs2
  go_enter Try.func44, Try.ntmps44
  go_wp2
  go_ret
  exact ⟨_, _, _, rfl, HD.out, HB.out⟩
theorem tlen_nil (w : World) : Calls Try.prog 101 #[.pointer none] w fun e w' => e = .returned (.int .i64 0) ∧ w = w' := by
  go_enter Try.func101, Try.ntmps101
  go_wp2
  go_ret
  exact ⟨rfl, rfl⟩
theorem tlen_any {w : World} {B t p c : Nat} {v : Value} {x : List Tm} (h : TX w B t p c v x) : Calls Try.prog 101 #[.pointer (some ⟨t, 0, none⟩)] w fun e w' => e = .returned (.int .i64 (x.length : Int)) ∧ w = w' := by
  obtain ⟨h1, ⟨l, ⟨f, h2, -⟩, -, h4⟩, -⟩ := h
  obtain ⟨A, cc, rfl⟩ := EK.row_slice h2.2.1
  have z0 := obj_cell h1 0
  have z1 := obj_cell h2.1 0
  simp only [List.getElem?_toArray, List.getElem?_cons_zero] at z0 z1
  have HE := hide h4.length_eq
  clear h1 h2 h4
  go_enter Try.func101, Try.ntmps101
  go_wp2
  go_ret
  refine ⟨?_, rfl⟩
  show Ending.returned (.int .i64 ((l.length : Nat) : Int)) = _
  rw [HE.out]
set_option maxRecDepth 100000 in
theorem tnext_nil (w : World) : Calls Try.prog 79 #[.pointer none] w fun e w' => e = .returned (.tuple #[.agg #[.int .i64 0, .int .i64 0], .bool false]) ∧ Below w.heap.size w w' := by
  have HL := hide tlen_nil
  have HO := hide (obj_new w (.cells #[.int .i64 0, .int .i64 0] 153))
  have HB := hide ((Below.refl w.heap.size w).alloc (Nat.le_refl _) (.cells #[.int .i64 0, .int .i64 0] 153))
  go_enter Try.func79, Try.ntmps79
  go_wp2_with fail
  refine (HL.out _).mono ?_
  rintro e w1 ⟨rfl, rfl⟩
  go_wp2
  refine bodyPost_ret (res_ct rfl _ _ w.heap.size 153 _ (0, 0) _ rfl HO.out Try.underlying153 rfl info44) rfl ?_
  exact ⟨rfl, HB.out⟩
theorem head_is {l x : List Tm} {h : Tm} (hh : HpI l l.length) (hp : l.Perm (h :: x)) (hs : (h :: x).Pairwise Tlt) : tat l 0 = h := by
  have h0 : 0 < l.length := by rw [hp.length_eq]; simp
  rcases List.mem_cons.1 (hp.mem_iff.1 (tat_mem h0)) with e | hm
  · exact e
  · have h1 := (List.pairwise_cons.1 hs).1 _ hm
    obtain ⟨k, hk, e⟩ := List.getElem_of_mem (hp.mem_iff.2 (List.mem_cons_self (a := h) (l := x)))
    have h2 := hh.least k hk
    rw [tat_eq hk, e] at h2
    exact absurd h1 h2
/-- The first of all. -/
def tHead (x : List Tm) : Tm × Bool := match x with
  | [] => (noT, false)
  | h :: _ => (h, true)
set_option maxRecDepth 100000 in
theorem tnext_any {w : World} {B t p c : Nat} {v : Value} {x : List Tm} (h : TX w B t p c v x) (hs : x.Pairwise Tlt) :
    Calls Try.prog 79 #[.pointer (some ⟨t, 0, none⟩)] w fun e w' => e = .returned (.tuple #[.agg #[.int .i64 (tHead x).1.id, .int .i64 (tHead x).1.at_], .bool (tHead x).2]) ∧ Below w.heap.size w w' := by
  have hb := (Below.refl w.heap.size w).alloc (Nat.le_refl _) (.cells #[.int .i64 0, .int .i64 0] 153)
  have HL := hide (tlen_any (h.below hb))
  rcases x with _ | ⟨h0, xs⟩
  · have HO := hide (obj_new w (.cells #[.int .i64 0, .int .i64 0] 153))
    have HB := hide hb
    clear h hb hs
    go_enter Try.func79, Try.ntmps79
    go_wp2_with fail
    refine HL.out.mono ?_
    rintro e w1 ⟨rfl, rfl⟩
    go_wp2
    refine bodyPost_ret (res_ct rfl _ _ w.heap.size 153 _ (0, 0) _ rfl HO.out Try.underlying153 rfl info44) rfl ?_
    exact ⟨rfl, HB.out⟩
  · obtain ⟨h1, ⟨l, ⟨f, h2, -⟩, h3, h4⟩, -⟩ := h
    have hl0 : 0 < l.length := by rw [h4.length_eq]; simp
    obtain ⟨r, cap, rfl, hn, hc, -, hrl, hcell⟩ := EK.row_cells h2.2.1 hl0
    simp only [maxLen] at hc
    have he := head_is h3 h4 hs
    have q0 := hcell 0 (by decide)
    have q1 := hcell 1 (by decide)
    rw [← tat_eq hl0, he] at q0 q1
    simp only [kT, List.getElem?_cons_zero, List.getElem?_cons_succ, Nat.zero_mul, Nat.zero_add] at q0 q1
    have z0 := obj_cell h1 0
    have z1 := obj_cell h2.1 0
    simp only [List.getElem?_toArray, List.getElem?_cons_zero] at z0 z1
    have HO := hide (obj_new w (.cells #[.int .i64 h0.id, .int .i64 h0.at_] 153))
    have HB := hide ((Below.refl w.heap.size w).alloc (Nat.le_refl _) (.cells #[.int .i64 h0.id, .int .i64 h0.at_] 153))
    have hlt1 := obj_lt h1
    have hlt2 := obj_lt h2.1
    obtain ⟨n, hnn⟩ : ∃ n, n = l.length := ⟨_, rfl⟩
    rw [← hnn] at z1 hn hl0
    have hxl : (((h0 :: xs).length : Nat) : Int) ≠ 0 := by simp; omega
    have hxl2 : ((((h0 :: xs).length : Nat) : Int) == 0) = false := by simpa using hxl
    clear h1 h2 h3 h4 he hcell hnn hb hs hxl
    go_enter Try.func79, Try.ntmps79
    go_wp2_with fail
    refine HL.out.mono ?_
    rintro e w1 ⟨rfl, rfl⟩
    go_wp2
    refine bodyPost_ret (res_ct rfl _ _ w.heap.size 153 _ (0, 0) _ rfl HO.out Try.underlying153 rfl info44) rfl ?_
    exact ⟨rfl, HB.out⟩
end Go.Proofs.Ythcnoamgkkbkcaa
