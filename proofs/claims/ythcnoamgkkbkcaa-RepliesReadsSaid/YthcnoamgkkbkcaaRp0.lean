/- Pieces that chapter 15 takes from other chapters' texts: minima and maxima, rows of numbers, results, one struct stored, what a range has seen, numbers compared. -/
import Derived.Test.YthcnoamgkkbkcaaMp2
import Derived.Test.YthcnoamgkkbkcaaCpg
import Derived.Test.YthcnoamgkkbkcaaGs
import Derived.Test.YthcnoamgkkbkcaaSto
import Derived.Test.YthcnoamgkkbkcaaOrd7
import Derived.Test.YthcnoamgkkbkcaaLib1
import Derived.Maps.RangeWalk
import Derived.RegionTactic
import Derived.Deep.CutBlock
namespace Go.Proofs.Ythcnoamgkkbkcaa
open Go.RowKit

theorem run_mx (ts : Array TypeId) (t : TypeId) (x y z : Int) (h : z = max x y) (W : World) : (Builtin.max_ ts t #[.int .i64 x, .int .i64 y]).run Try.prog W = .ok (.int .i64 z) W := by
  rw [run_max_int2, h]
  congr 2
  split <;> omega
theorem run_mn (ts : Array TypeId) (t : TypeId) (x y z : Int) (h : z = min x y) (W : World) : (Builtin.min_ ts t #[.int .i64 x, .int .i64 y]).run Try.prog W = .ok (.int .i64 z) W := by
  rw [run_min_int2, h]
  congr 2
  split <;> omega
theorem inf3 : (Try.prog.info? 3).map (fun i => (i.zero, i.size, i.bytes)) = some (some (.int .i64 0), 1, 8) := by kernel_rfl
/-- Rows of numbers. -/
def kI : EK Try.prog Int where
  cs n := [.int .i64 n]
  sz := 1
  e := 3
  t := 54
  by_ := 8
  len _ := rfl
  one a u h := by
    rw [List.mem_singleton] at h
    subst h
    rfl
  pos := by decide
  und := Try.underlying54
  inf := ek_inf inf3 rfl
  small := by decide
def seenN (w : World) (r : Nat) : Nat := match w.heap[r]? with
  | some (.mapIter _ _ seen _) => seen.size
  | _ => 0
theorem MK.rg_seen {P : Program} {α : Type} {K : MK P α} {w : World} {c r N : Nat} {f : Int → Option α} {D : List (Int × α)} (h : K.rg w c r f N D) : seenN w r = D.length := by
  obtain ⟨L, clock, since, seen, c0, h1, h2, h3, h4, h5, h6, h7, S, s1, s2, s3, rfl⟩ := h
  unfold seenN
  rw [h3]
  simp only
  rw [List.length_map, ← Array.length_toList, s3, List.length_map]
/-- One result, a struct in memory. -/
theorem res_c {P : Program} {fn : Func} {p : Tmp} {ty : TypeId} (h : fn.results = #[.cell p ty]) (tmps : Array Value) (w : World) (g : Nat) (t : TypeId) (cs : Array Value) (fr : Nat × Nat) (d : TypeDesc)
    (hp : tmps.getD p undef = .pointer (some ⟨g, 0, none⟩)) (hg : w.heap[g]? = some (.cells cs t fr)) (hu : P.underlying ty = some d) (hd : (match d with | .struct _ | .array _ _ => true | _ => false) = true)
    (hi : (P.info? ty).map (·.size) = some cs.size) : (results fn tmps).run P w = .ok (.agg cs) w := by
  have hp' : tmps[p]?.getD undef = .pointer (some ⟨g, 0, none⟩) := by simpa using hp
  simp [results, h, hp', asAddr, run_loadVar_row w g t ty cs fr d hg hu hd hi]
/-- Three results, the first one a struct in memory. -/
theorem res_ctt {P : Program} {fn : Func} {p u q : Tmp} {ty : TypeId} (h : fn.results = #[.cell p ty, .tmp u, .tmp q]) (tmps : Array Value) (w : World) (g : Nat) (t : TypeId) (cs : Array Value) (fr : Nat × Nat) (d : TypeDesc)
    (hp : tmps.getD p undef = .pointer (some ⟨g, 0, none⟩)) (hg : w.heap[g]? = some (.cells cs t fr)) (hu : P.underlying ty = some d) (hd : (match d with | .struct _ | .array _ _ => true | _ => false) = true)
    (hi : (P.info? ty).map (·.size) = some cs.size) : (results fn tmps).run P w = .ok (.tuple #[.agg cs, tmps.getD u undef, tmps.getD q undef]) w := by
  have hp' : tmps[p]?.getD undef = .pointer (some ⟨g, 0, none⟩) := by simpa using hp
  simp [results, h, hp', asAddr, run_loadVar_row w g t ty cs fr d hg hu hd hi]
theorem obj_new' (w : World) (o o' : Obj) : ((w.alloc o).alloc o').heap[w.heap.size + 1]? = some o' := by
  have := obj_new (w.alloc o) o'
  rwa [World.size_alloc] at this
theorem EK.row_ne_of {P : Program} {α : Type} {K : EK P α} {w : World} {B : Nat} {v : Value} {l : List α} (h : K.row w B v l) {k : Nat} {cs : Array Value} {t : TypeId} {f : Nat × Nat} (hk : w.heap[k]? = some (.cells cs t f)) (ht : t ≠ K.e) : ∀ j, v.ownBlock = some j → ¬ j = k := fun _ e e2 => EK.row_ne h hk ht (e2 ▸ e)
/-- A struct is stored. -/
structure OsG (w0 : World) (b : Nat) (t : TypeId) (z c : Array Value) (e : Bool) (w : World) : Prop where
  fr : Fr (fun j => j = b) w0 w
  o : w.heap[b]? = some (.cells (if e = true then c else z) t (0, 0))
theorem OsG.start {w0 : World} {b : Nat} {t : TypeId} {z c : Array Value} (h : w0.heap[b]? = some (.cells z t (0, 0))) : OsG w0 b t z c false w0.drew := ⟨(Fr.refl _ _).drew, h⟩
theorem OsG.store {P : Program} {w0 w : World} {b : Nat} {t ty : TypeId} {z c : Array Value} (h : OsG w0 b t z c false w) (hi : (P.info? ty).map (·.size) = some c.size) (hz : z.size = c.size) (h1 : c.all (·.oneCell') = true) :
    (Instr.storeAt ty (.pointer (some ⟨b, 0, none⟩)) (.agg c)).run P w = .ok () (w.setRow b c) ∧ OsG w0 b t z c true (w.setRow b c) := by
  have ho := h.o
  rw [if_neg Bool.false_ne_true] at ho
  exact ⟨store_whole ho hi hz h1, h.fr.trans (setRow_fr' w b c) (fun _ _ e => e), setRow_at' ho⟩
theorem kI_vals (l : List Int) : kI.vals l = l.map (Value.int .i64) := by
  unfold EK.vals
  induction l with
  | nil => rfl
  | cons a l ih => rw [List.flatMap_cons, ih]; rfl
def lenV (v : Value) : Nat := match v with
  | .slice _ n _ => n
  | _ => 0
theorem sorted_getD (l : List Int) (j : Nat) (h : j < l.length) : (l.toArray)[j]! = l[j] := by
  rw [getElem!_pos _ j (by simpa using h)]
  simp
/-- slices.Sort of a row. -/
theorem sort_row {w : World} {B : Nat} {v : Value} {l : List Int} (h : kI.row w B v l) (hl : l.length ≤ 1073741824) :
    Calls Try.prog 52 #[v] w fun e w' => e = .returned (.tuple #[]) ∧ kI.row w' B v (l.mergeSort fun x y => decide (x ≤ y)) ∧ Fr (fun j => v.ownBlock = some j) w w' := by
  rcases h.2 with ⟨rfl, h0⟩ | ⟨g, cap, cur, rfl, hb, hc, hn, hm, hs, ht⟩
  · have e : l = [] := List.length_eq_zero_iff.1 h0
    subst e
    refine (sh_slices_Sort_int_none none 0 w).mono ?_
    rintro e w' ⟨rfl, rfl⟩
    exact ⟨rfl, by rw [List.mergeSort_nil]; exact h, Fr.refl _ _⟩
  · have hcl : ∀ j (hj : j < l.length), cur[j]? = some (.int .i64 l[j]) := fun j hj => by
      have e1 : (kI.vals l)[j]? = some (.int .i64 l[j]) := by rw [kI_vals]; simp [hj]
      rw [← Array.getElem?_toList, ← e1, ← ht, List.getElem?_take, if_pos (by rw [show kI.sz = 1 from rfl]; omega)]
    refine (sh_slices_Sort_int g 0 cap l w (fun j hj => ?_) (obj_lt hc) (by omega)).mono ?_
    · have hj' : j < l.length := by simpa using hj
      refine ⟨?_, obj_frozen hc _⟩
      rw [Nat.zero_add, obj_cell hc, hcl j hj', sorted_getD l j hj']
    · rintro e w' ⟨rfl, n, os, rfl⟩
      have hblk : ∀ k, k < w.heap.size → (Go.Sort.grow (Go.Sort.putRow (Value.int .i64) (Go.Sort.ahead w n) g 0 (l.mergeSort fun x y => decide (x ≤ y)).toArray) os).heap[k]? = if g = k then some (.cells (Go.Sort.putCells (Value.int .i64) 0 (l.mergeSort fun x y => decide (x ≤ y)).toArray cur) 3 (0, 0)) else w.heap[k]? := fun k hk => by
        show ((w.heap.modify g (Go.Sort.onCells _)) ++ os)[k]? = _
        rw [Array.getElem?_append_left (by simpa using hk), Array.getElem?_modify]
        split
        · rename_i e
          subst e
          rw [hc]
          rfl
        · rfl
      have hg := hblk g (obj_lt hc)
      rw [if_pos rfl] at hg
      have hlen : (l.mergeSort fun x y => decide (x ≤ y)).length = l.length := List.length_mergeSort _
      refine ⟨rfl, ⟨by rw [EK.vlen], .inr ⟨g, cap, _, by rw [hlen], hb, hg, by rw [hlen]; exact hn, hm, ?_, ?_⟩⟩, rfl, rfl, rfl, ?_, fun k hk hk2 => ?_⟩
      · simpa [Go.Sort.putCells] using hs
      · have hcs : l.length ≤ cur.size := by
          rw [hs]
          show l.length ≤ cap * 1
          omega
        rw [kI_vals, hlen, show l.length * kI.sz = l.length from Nat.mul_one _]
        apply List.ext_getElem?
        intro j
        rw [List.getElem?_take]
        by_cases hj : j < l.length
        · rw [if_pos hj, Array.getElem?_toList]
          have hjc : j < cur.size := by omega
          simp only [Go.Sort.putCells, Array.getElem?_mapIdx, Array.getElem?_eq_getElem hjc, Option.map_some, Nat.zero_le, true_and, Nat.zero_add, Nat.sub_zero]
          rw [if_pos (by simpa [hlen] using hj), sorted_getD _ j (by rw [hlen]; exact hj)]
          simp [hlen, hj]
        · rw [if_neg hj, List.getElem?_eq_none (by rw [List.length_map, hlen]; omega)]
      · show w.heap.size ≤ ((w.heap.modify g (Go.Sort.onCells _)) ++ os).size
        simp
      · rw [hblk k hk, if_neg (fun e => hk2 (by rw [e]; rfl))]
theorem below_drewN {B : Nat} {a w : World} (h : Below B a w) (n : Nat) : Below B a (w.drewN n) := ⟨h.os, h.tape, h.output, h.size, h.block⟩
def SameI (w0 : World) (n : Nat) (w : World) (i : Value) : Prop := ∃ k : Nat, i = .int .i64 k ∧ k ≤ n ∧ Below w0.heap.size w0 w
set_option maxHeartbeats 4000000 in
set_option maxRecDepth 100000 in
theorem ints_yes {w : World} {B B' : Nat} {u v : Value} {l : List Int} (hu : kI.row w B u l) (hv : kI.row w B' v l) : Calls Try.prog 27 #[u, v] w fun e w' => e = .returned (.bool true) ∧ Below w.heap.size w w' := by
  obtain ⟨A, c, rfl⟩ := EK.row_slice hu
  obtain ⟨A', c', rfl⟩ := EK.row_slice hv
  obtain ⟨n, hn⟩ : ∃ n, n = l.length := ⟨_, rfl⟩
  rw [← hn] at hu hv ⊢
  have HN := hide hn
  have HU := hide hu
  have HV := hide hv
  have HS : Hid (SameI w n w (.int .i64 0)) := hide ⟨0, rfl, Nat.zero_le _, Below.refl _ _⟩
  clear hu hv hn
  go_enter Try.func27, Try.ntmps27
  go_wp2_with fail
  go_loopw [5] (fun i wr => SameI w n wr i) (fun i _ => n - (intOf i).toNat)
  case atStart => exact HS.out
  case round =>
    obtain ⟨k, rfl, hk, hb⟩ := hrel
    have HB := hide hb
    have hu := EK.row_below HU.out hb
    have hv := EK.row_below HV.out hb
    clear hb
    rcases Nat.lt_or_ge k n with hkl | hkl
    · have hkl' : k < l.length := by have := HN.out; omega
      obtain ⟨r, cap, e1, hz1, hz2, -, -, hcell⟩ := EK.row_cells hu hkl'
      obtain ⟨r', cap', e2, hz3, hz4, -, -, hcell2⟩ := EK.row_cells hv hkl'
      rw [← HN.out] at e1 e2 hz1 hz3
      injection e1 with e1a e1b e1c
      subst e1a e1c
      injection e2 with e2a e2b e2c
      subst e2a e2c
      simp only [maxLen] at hz2 hz4
      obtain ⟨x, hx⟩ : ∃ x, x = l[k] := ⟨_, rfl⟩
      have q0 := hcell 0 (by decide)
      have q1 := hcell2 0 (by decide)
      rw [← hx] at q0 q1
      simp only [kI, List.getElem?_cons_zero, Nat.mul_one, Nat.add_zero] at q0 q1
      have hki : (k : Int) < (n : Int) := by omega
      have HRES := hide (fun nq => show SameI w n (wr.drewN nq) (.int .i64 ((k : Int) + 1)) from ⟨k + 1, rfl, hkl, below_drewN HB.out nq⟩)
      clear hcell hcell2 hu hv hx e1b e2b
      go_wp2_with fail
      go_quiet (fail)
      go_wp2_with fail
      exact ⟨HRES.out _, by simp only [intOf]; omega⟩
    · obtain rfl : k = n := by omega
      clear hu hv
      go_wp2
      go_ret
      exact ⟨rfl, HB.out⟩
end Go.Proofs.Ythcnoamgkkbkcaa
