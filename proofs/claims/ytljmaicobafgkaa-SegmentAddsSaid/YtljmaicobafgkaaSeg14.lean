/- Chapter 31, segment: Add over pieces; quiet contracts; the example. -/
import Derived.Test.YtljmaicobafgkaaSeg13
import Derived.Test.YtljmaicobafgkaaSeg5
import Derived.Test.YtljmaicobafgkaaSeg6
namespace Go.Proofs.Ytljmaicobafgkaa
open Go.RowKit

def Pc.zero : Ent := ⟨0, 0, 0, 0, 0⟩
instance (x : Pc) : Decidable x.ok := by unfold Pc.ok; infer_instance
/-- A segment in memory, by its pieces. -/
def SgP (w : World) (g : Nat) (size : Int) (l : List Pc) (lv : Value) : Prop := Sg w g size (pcText l) (entsAt 0 l) lv
def addOk (size : Int) (l : List Pc) (x : Pc) : Prop := x.ok ∧ (x.body.size : Int) ≤ leftOf size (pcText l).length l.length
instance (size : Int) (l : List Pc) (x : Pc) : Decidable (addOk size l x) := by unfold addOk; infer_instance
def addE (size : Int) (l : List Pc) (x : Pc) : Ent := if addOk size l x then x.ent (pcText l).length else Pc.zero
def addC (size : Int) (l : List Pc) (x : Pc) : Int := if addOk size l x then 0 else if x.ok then 5 else 1
def addL (size : Int) (l : List Pc) (x : Pc) : List Pc := if addOk size l x then l ++ [x] else l
theorem addC_ne {size : Int} {l : List Pc} {x : Pc} (h : ¬ addOk size l x) : addC size l x ≠ 0 := by
  unfold addC
  rw [if_neg h]
  split <;> decide
theorem SegInv.add {size : Int} {l : List Pc} (h : SegInv size l) (x : Pc) : SegInv size (addL size l x) := by
  unfold addL
  split
  · rename_i hx
    exact h.snoc hx.1 hx.2
  · exact h
theorem addP (g : Nat) (size : Int) (l : List Pc) (lv : Value) (x : Pc) (w : World) (h : SgP w g size l lv) (hi : SegInv size l) (h0 : 16 ≤ size) (h1 : size ≤ 65536) :
    Calls Try.prog 56 #[.pointer (some ⟨g, 0, none⟩), .int .i64 x.kind, .int .i64 x.inode, .int .i64 x.block, .string x.body] w fun e w' => e = .returned (.tuple #[entV (addE size l x), .int .i64 (addC size l x)]) ∧
      ∃ lv', SgP w' g size (addL size l x) lv' ∧ Fr (sgF w g lv) w w' ∧ (lv'.ownBlock = lv.ownBlock ∨ ∃ k, lv'.ownBlock = some k ∧ w.heap.size ≤ k) := by
  have hb := hi.bounds h1
  have hel := entsAt_len 0 l
  by_cases hx : addOk size l x
  · have := add_ok g size (pcText l) (entsAt 0 l) lv x.kind x.inode x.block x.body w h (by omega) h1 (by omega) (by rw [hel]; omega) hx.1 (by rw [hel]; exact hx.2)
    refine this.mono ?_
    rintro e w' ⟨rfl, lv', hS, hf, hv⟩
    unfold addE addC addL SgP
    rw [if_pos hx, if_pos hx, if_pos hx, pcText_snoc, entsAt_snoc, Nat.zero_add]
    exact ⟨rfl, lv', hS, hf, hv⟩
  · by_cases hm : x.ok
    · have := add_full g size (pcText l) (entsAt 0 l) lv x.kind x.inode x.block x.body w h (by omega) h1 (by omega) (by rw [hel]; omega) hm (by
        rw [hel]
        by_cases hc : leftOf size (pcText l).length l.length < (x.body.size : Int)
        · exact hc
        · exact absurd ⟨hm, by omega⟩ hx)
      refine this.mono ?_
      rintro e w' ⟨rfl, hbl⟩
      unfold addE addC addL
      rw [if_neg hx, if_neg hx, if_neg hx, if_pos hm]
      exact ⟨rfl, lv, Sg.below h hbl, Fr.of_below hbl, .inl rfl⟩
    · have := add_arg g size (pcText l) (entsAt 0 l) lv x.kind x.inode x.block x.body w h hm
      refine this.mono ?_
      rintro e w' ⟨rfl, hbl⟩
      unfold addE addC addL
      rw [if_neg hx, if_neg hx, if_neg hx, if_neg hm]
      exact ⟨rfl, lv, Sg.below h hbl, Fr.of_below hbl, .inl rfl⟩
theorem sgF_low {w w' : World} {g : Nat} {lv : Value} {B : Nat} {l : List Ent} (h : Fr (sgF w g lv) w w') (hO : OwE w g lv l) (hB : B ≤ g) (hg : g ≤ w.heap.size) : Below B w w' :=
  h.below B (by omega) (fun k hk hf => by
    rcases hf with rfl | hf | hf
    · omega
    · have := (row_typed hO hf).1
      omega
    · omega)
theorem SgP.low {w w' : World} {g : Nat} {size : Int} {l : List Pc} {lv : Value} {B : Nat} (hS : SgP w g size l lv) (h : Fr (sgF w g lv) w w') (hB : B ≤ g) : Below B w w' := by
  have hg := Sg.lt hS
  obtain ⟨bv, _, _, hO⟩ := hS
  exact sgF_low h hO hB (by omega)
theorem sealP (g : Nat) (size : Int) (l : List Pc) (lv : Value) (w : World) (h : SgP w g size l lv) (hi : SegInv size l) (h1 : size ≤ 65536) (hl : l.length ≤ 2000) :
    Calls Try.prog 60 #[.pointer (some ⟨g, 0, none⟩)] w fun e w' => e = .returned (.string (segS l)) ∧ Below w.heap.size w w' :=
  segSeal_ok g size (pcText l) (entsAt 0 l) lv w h (by rw [entsAt_len]; exact hl) (hi.ents h1) (by have := (hi.bounds h1).1; omega)
set_option maxRecDepth 100000 in
theorem over_same (n : Int) (w : World) (h0 : 0 ≤ n) (h1 : n ≤ 100000) : Calls Try.prog 124 #[.int .i64 n] w fun e w' => e = .returned (.int .i64 (9 + 28 * n)) ∧ w' = w := by
  go_enter Try.func124, Try.ntmps124
  go_wp2
  go_ret
  exact ⟨rfl, rfl⟩
theorem len_same (g : Nat) (size : Int) (t : List UInt8) (l : List Ent) (lv : Value) (w : World) (h : Sg w g size t l lv) :
    Calls Try.prog 59 #[.pointer (some ⟨g, 0, none⟩)] w fun e w' => e = .returned (.int .i64 t.length) ∧ w' = w := by
  obtain ⟨bv, hh, hb, _⟩ := h
  obtain ⟨A, c, rfl⟩ := row_slice hb
  have z := obj_cell hh 1
  simp only [segC, List.getElem?_toArray, List.getElem?_cons_zero, List.getElem?_cons_succ] at z
  go_enter Try.func59, Try.ntmps59
  go_wp2
  go_ret
  exact ⟨rfl, rfl⟩
set_option maxHeartbeats 1000000 in
set_option maxRecDepth 100000 in
theorem left_quiet (g : Nat) (size : Int) (t : List UInt8) (l : List Ent) (lv : Value) (w : World) (h : Sg w g size t l lv) (h0 : 0 ≤ size) (h1 : size ≤ 65536) (ht : t.length ≤ 1048576) (hn : l.length ≤ 90000) :
    Calls Try.prog 128 #[.pointer (some ⟨g, 0, none⟩)] w fun e w' => e = .returned (.int .i64 (size - t.length - (9 + 28 * (l.length + 1)))) ∧ ∃ m, w' = w.drewN m := by
  obtain ⟨bv, hh, hb, he⟩ := h
  obtain ⟨A, c, rfl⟩ := row_slice hb
  obtain ⟨A', c', rfl⟩ := row_slice he
  have z0 := obj_cell hh 0
  have z1 := obj_cell hh 1
  have z2 := obj_cell hh 2
  simp only [segC, List.getElem?_toArray, List.getElem?_cons_zero, List.getElem?_cons_succ] at z0 z1 z2
  generalize t.length = tl at *
  generalize l.length = ll at *
  clear hh hb he
  go_enter Try.func128, Try.ntmps128
  go_wp2_with fail
  go_quiet (first | (go_at_call 124; refine Calls.quiet_of_same (over_same _ _ (by omega) (by omega))))
  go_wp2
  go_ret
  exact ⟨rfl, _, rfl⟩
end Go.Proofs.Ytljmaicobafgkaa
