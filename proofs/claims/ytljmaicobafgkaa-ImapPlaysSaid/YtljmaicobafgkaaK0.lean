/- A join of 4 texts of this claim: Base, Im1, Bytes, App. Conditions: none of their own. -/
import Derived.Test.YtljmaicobafgkaaProg
import Derived.Below
import Derived.Deep.Draws
import Derived.Deep.AppendLies
import Derived.Maps.AppendAt
import Derived.OwnWalk
import Derived.Laws.BytesArg
import Derived.Laws.MakeOwn
import Derived.Laws.OwnMore
import Derived.Deep.OwnRows
import Derived.Tactics
import Derived.Tactics2
import Derived.Lib.ConvBytes
import Derived.Laws.Slices
import Derived.WalkKit
import Derived.KernelRfl
import Derived.RowKit3
import Derived.Deep.LoopGhost
import Derived.Deep.QuietTactic
import Derived.BigQuiet
import Derived.WideLaws
import Derived.Deep.DeepCutAuto
import Derived.Deep.CutBlock
import Derived.Deep.RegionHeld3
import Derived.Laws.Rows
import Derived.Lib.AppendStr
import Derived.ArgAppend
import Derived.Laws.IdiomCopy
import Derived.OrdersHeld
import Derived.Laws.BitsLemmas
import Derived.RowKit
import Derived.Outline
import Derived.WalkLawsBesides
import Derived.StillTailTactics
import Derived.ScopeJumps
import Derived.Lib.Hide
import Derived.ShutString
import Derived.Laws.IdiomStrings
section
/- Base words of this seat: what a call may have turned in memory (Fr), and the imports that all texts share. No statement of its own. -/
namespace Go.Proofs.Ytljmaicobafgkaa
open Go.RowKit

/-- What was there, but for the blocks of F, is as it was; the streams are as they were. -/
structure Fr (F : Nat → Prop) (w w' : World) : Prop where
  os : w'.os = w.os
  tape : w'.tape = w.tape
  output : w'.output = w.output
  size : w.heap.size ≤ w'.heap.size
  block : ∀ k, k < w.heap.size → ¬ F k → w'.heap[k]? = w.heap[k]?

theorem Fr.refl (F : Nat → Prop) (w : World) : Fr F w w := ⟨rfl, rfl, rfl, Nat.le_refl _, fun _ _ _ => rfl⟩
theorem Fr.mono {F G : Nat → Prop} {w w' : World} (h : Fr F w w') (hFG : ∀ k, k < w.heap.size → F k → G k) : Fr G w w' :=
  ⟨h.os, h.tape, h.output, h.size, fun k hk hg => h.block k hk (fun hf => hg (hFG k hk hf))⟩
/-- One behind the other: the second one may also turn what the first one made. -/
theorem Fr.trans {F G : Nat → Prop} {a b c : World} (h : Fr F a b) (k : Fr G b c) (hG : ∀ i, i < a.heap.size → G i → F i) : Fr F a c :=
  ⟨k.os.trans h.os, k.tape.trans h.tape, k.output.trans h.output, Nat.le_trans h.size k.size,
    fun i hi hf => (k.block i (Nat.lt_of_lt_of_le hi h.size) (fun hg => hf (hG i hi hg))).trans (h.block i hi hf)⟩
theorem Fr.drew {F : Nat → Prop} {a w : World} (h : Fr F a w) : Fr F a w.drew := ⟨h.os, h.tape, h.output, h.size, h.block⟩
theorem Fr.drewN {F : Nat → Prop} {a w : World} (h : Fr F a w) (n : Nat) : Fr F a (w.drewN n) := ⟨h.os, h.tape, h.output, h.size, h.block⟩
theorem Fr.alloc {F : Nat → Prop} {a w : World} (h : Fr F a w) (o : Obj) : Fr F a (w.alloc o) :=
  ⟨h.os, h.tape, h.output, Nat.le_trans h.size (by simp), fun i hi hf => (Below.heap_alloc w o i (Nat.lt_of_lt_of_le hi h.size)).trans (h.block i hi hf)⟩
theorem Fr.setCell {F : Nat → Prop} {a w : World} (h : Fr F a w) {p : Addr} (hp : p.block < a.heap.size → F p.block) (u : Value) : Fr F a (w.setCell p u) :=
  ⟨h.os, h.tape, h.output, by simpa [World.setCell] using h.size, fun i hi hf => (Below.heap_setCell w p u i (by
    rintro rfl
    exact hf (hp hi))).trans (h.block i hi hf)⟩
theorem Fr.grown {F : Nat → Prop} {a w w' : World} {row : Option Nat} (h : Fr F a w) (hg : w.grownBy w' row) (hr : ∀ k, row = some k → k < a.heap.size → F k) : Fr F a w' :=
  ⟨hg.os.trans h.os, hg.tape.trans h.tape, hg.output.trans h.output, Nat.le_trans h.size hg.size, fun i hi hf =>
    (hg.block i (Nat.lt_of_lt_of_le hi h.size) (fun e => hf (hr i e.symm hi))).trans (h.block i hi hf)⟩
theorem Fr.of_below {F : Nat → Prop} {a w : World} (h : Below a.heap.size a w) : Fr F a w := ⟨h.os, h.tape, h.output, h.size, fun k hk _ => h.block k hk⟩
theorem Fr.then_below {F : Nat → Prop} {a w w' : World} (h : Fr F a w) (k : Below w.heap.size w w') : Fr F a w' :=
  h.trans (Fr.of_below (F := F) k) (fun _ _ hf => hf)
theorem Fr.below {F : Nat → Prop} {a w : World} (h : Fr F a w) (B : Nat) (hB : B ≤ a.heap.size) (hF : ∀ k, k < B → ¬ F k) : Below B a w :=
  ⟨h.os, h.tape, h.output, h.size, fun k hk => h.block k (by omega) (hF k hk)⟩
theorem Fr.none_below {a w : World} (h : Fr (fun _ => False) a w) : Below a.heap.size a w := h.below _ (Nat.le_refl _) (fun _ _ hf => hf)
theorem Fr.obj {F : Nat → Prop} {a w : World} (h : Fr F a w) {k : Nat} {o : Obj} (ho : a.heap[k]? = some o) (hk : ¬ F k) : w.heap[k]? = some o :=
  (h.block k (Array.getElem?_eq_some_iff.1 ho).1 hk).trans ho
theorem obj_lt {w : World} {k : Nat} {o : Obj} (h : w.heap[k]? = some o) : k < w.heap.size := (Array.getElem?_eq_some_iff.1 h).1
theorem obj_cell {w : World} {k : Nat} {cs : Array Value} {t : TypeId} {f : Nat × Nat} (h : w.heap[k]? = some (.cells cs t f)) (i : Nat) : w.cell? ⟨k, i, none⟩ = cs[i]? := cell_of_row w k i cs t f h
theorem obj_frozen {w : World} {k : Nat} {cs : Array Value} {t : TypeId} (h : w.heap[k]? = some (.cells cs t (0, 0))) (i : Nat) : w.frozen? ⟨k, i, none⟩ = false := by simp [World.frozen?, h]
theorem obj_set {w : World} {k : Nat} {cs : Array Value} {t : TypeId} (h : w.heap[k]? = some (.cells cs t (0, 0))) (i : Nat) (u : Value) : (w.setCell ⟨k, i, none⟩ u).heap[k]? = some (.cells (cs.setIfInBounds i u) t (0, 0)) := by
  simp [World.setCell, Array.getElem?_modify, h]
theorem obj_far {w : World} {k : Nat} {o : Obj} (h : w.heap[k]? = some o) {p : Addr} (hp : k ≠ p.block) (u : Value) : (w.setCell p u).heap[k]? = some o := (Below.heap_setCell w p u k hp).trans h
theorem obj_alloc {w : World} {k : Nat} {o : Obj} (h : w.heap[k]? = some o) (o' : Obj) : (w.alloc o').heap[k]? = some o := (Below.heap_alloc w o' k (obj_lt h)).trans h
theorem obj_new (w : World) (o : Obj) : (w.alloc o).heap[w.heap.size]? = some o := heap_alloc_new w o
theorem obj_below {w w1 : World} {k : Nat} {o : Obj} (h : w.heap[k]? = some o) (hb : Below w.heap.size w w1) : w1.heap[k]? = some o := (hb.block k (obj_lt h)).trans h
theorem add_plain' (g o j : Nat) : (⟨g, o, none⟩ : Addr).add j = ⟨g, o + j, none⟩ := by unfold Addr.add; split <;> simp_all
/-- A region that draws its order: n quiet operations, then a tail in one order; over the world's own word for a draw. -/
theorem wp_stl {P : Program} {id : Nat} {Q : Exit → Act → World → Prop} {a : Act} {w : World} {l : List Oper} (n : Nat) (hm : P.follows .mixedOrders = true) (hB : Region.lexTailB .any l.toArray n = true)
    (h : wpStill P l.toArray w.drew (fun a' => wpList P l.toArray Q (l.drop n) a' w.drew) (l.take n) a) : (Code.region id l.toArray true).wp P Q a w :=
  wp_region_still_tail n hm hB h
/-- Two results, the first one a struct in memory. -/
theorem res_ct {P : Program} {fn : Func} {p u : Tmp} {ty : TypeId} (h : fn.results = #[.cell p ty, .tmp u]) (tmps : Array Value) (w : World) (g : Nat) (t : TypeId) (cs : Array Value) (fr : Nat × Nat) (d : TypeDesc)
    (hp : tmps.getD p undef = .pointer (some ⟨g, 0, none⟩)) (hg : w.heap[g]? = some (.cells cs t fr)) (hu : P.underlying ty = some d) (hd : (match d with | .struct _ | .array _ _ => true | _ => false) = true)
    (hi : (P.info? ty).map (·.size) = some cs.size) : (results fn tmps).run P w = .ok (.tuple #[.agg cs, tmps.getD u undef]) w := by
  have hp' : tmps[p]?.getD undef = .pointer (some ⟨g, 0, none⟩) := by simpa using hp
  simp [results, h, hp', asAddr, run_loadVar_row w g t ty cs fr d hg hu hd hi]
theorem undrew {w w' : World} (h : Below w.drew.heap.size w.drew w') : Below w.heap.size w w' := ⟨h.os, h.tape, h.output, h.size, h.block⟩
theorem hide {p : Prop} (h : p) : Hid p := h
end Go.Proofs.Ytljmaicobafgkaa
end
section
/- Chapter 25, imap: what an inode map is; its small functions. -/
namespace Go.Proofs.Ytljmaicobafgkaa
open Go.RowKit

/-- Where an inode stands. -/
structure Spot where
  seg : Int
  frm : Int
  len : Int
  ver : Int
def noSpot : Spot := ⟨0, 0, 0, 0⟩
def mayI (i : Int) : Prop := 1 ≤ i ∧ i < 256
instance (i : Int) : Decidable (mayI i) := by unfold mayI; infer_instance
def Spot.ok (x : Spot) : Prop := 0 ≤ x.seg ∧ x.seg < 4096 ∧ 0 ≤ x.frm ∧ x.frm ≤ 65536 ∧ 0 ≤ x.len ∧ x.len ≤ 65536
instance (x : Spot) : Decidable x.ok := by unfold Spot.ok; infer_instance
/-- The cells C are the spots M. -/
def Rep (C : Array Value) (M : Nat → Spot) : Prop :=
  C.size = 1024 ∧ ∀ i, i < 256 → C[i * 4]? = some (.int .i64 (M i).seg) ∧ C[i * 4 + 1]? = some (.int .i64 (M i).frm) ∧ C[i * 4 + 2]? = some (.int .i64 (M i).len) ∧ C[i * 4 + 3]? = some (.int .i64 (M i).ver)
def upd (M : Nat → Spot) (i : Nat) (x : Spot) : Nat → Spot := fun j => if j = i then x else M j
theorem upd_same (M : Nat → Spot) (i : Nat) (x : Spot) : upd M i x i = x := if_pos rfl
theorem upd_other (M : Nat → Spot) {i j : Nat} (x : Spot) (h : j ≠ i) : upd M i x j = M j := if_neg h
theorem Rep.set {C : Array Value} {M : Nat → Spot} (h : Rep C M) {i : Nat} (hi : i < 256) (x : Spot) :
    Rep ((((C.setIfInBounds (i * 4) (.int .i64 x.seg)).setIfInBounds (i * 4 + 1) (.int .i64 x.frm)).setIfInBounds (i * 4 + 2) (.int .i64 x.len)).setIfInBounds (i * 4 + 3) (.int .i64 x.ver)) (upd M i x) := by
  obtain ⟨hs, hc⟩ := h
  refine ⟨by simp [hs], fun j hj => ?_⟩
  obtain ⟨a, b, c, d⟩ := hc j hj
  by_cases e : j = i
  · subst e
    rw [upd_same]
    refine ⟨?_, ?_, ?_, ?_⟩
    all_goals simp [Array.getElem?_setIfInBounds, hs]
    all_goals omega
  · rw [upd_other M x e]
    refine ⟨?_, ?_, ?_, ?_⟩
    · rw [Array.getElem?_setIfInBounds_ne (by omega), Array.getElem?_setIfInBounds_ne (by omega), Array.getElem?_setIfInBounds_ne (by omega), Array.getElem?_setIfInBounds_ne (by omega)]
      exact a
    · rw [Array.getElem?_setIfInBounds_ne (by omega), Array.getElem?_setIfInBounds_ne (by omega), Array.getElem?_setIfInBounds_ne (by omega), Array.getElem?_setIfInBounds_ne (by omega)]
      exact b
    · rw [Array.getElem?_setIfInBounds_ne (by omega), Array.getElem?_setIfInBounds_ne (by omega), Array.getElem?_setIfInBounds_ne (by omega), Array.getElem?_setIfInBounds_ne (by omega)]
      exact c
    · rw [Array.getElem?_setIfInBounds_ne (by omega), Array.getElem?_setIfInBounds_ne (by omega), Array.getElem?_setIfInBounds_ne (by omega), Array.getElem?_setIfInBounds_ne (by omega)]
      exact d
/-- The block g is a map of the program's. -/
def IM (w : World) (g : Nat) (M : Nat → Spot) : Prop := ∃ C, w.heap[g]? = some (.cells C 169 (0, 0)) ∧ Rep C M
theorem IM.lt {w : World} {g : Nat} {M : Nat → Spot} (h : IM w g M) : g < w.heap.size := by
  obtain ⟨C, hC, _⟩ := h
  exact obj_lt hC
theorem IM.below {w w' : World} {g : Nat} {M : Nat → Spot} (h : IM w g M) (hb : Below w.heap.size w w') : IM w' g M := by
  obtain ⟨C, hC, r⟩ := h
  exact ⟨C, obj_below hC hb, r⟩
theorem IM.cells {w : World} {g : Nat} {M : Nat → Spot} (h : IM w g M) {i : Nat} (hi : i < 256) :
    w.cell? ⟨g, i * 4, none⟩ = some (.int .i64 (M i).seg) ∧ w.cell? ⟨g, i * 4 + 1, none⟩ = some (.int .i64 (M i).frm) ∧ w.cell? ⟨g, i * 4 + 2, none⟩ = some (.int .i64 (M i).len) ∧ w.cell? ⟨g, i * 4 + 3, none⟩ = some (.int .i64 (M i).ver) := by
  obtain ⟨C, hC, _, r⟩ := h
  obtain ⟨a, b, c, d⟩ := r i hi
  exact ⟨(obj_cell hC _).trans a, (obj_cell hC _).trans b, (obj_cell hC _).trans c, (obj_cell hC _).trans d⟩
theorem IM.thaw {w : World} {g : Nat} {M : Nat → Spot} (h : IM w g M) (j : Nat) : w.frozen? ⟨g, j, none⟩ = false := by
  obtain ⟨C, hC, _⟩ := h
  exact obj_frozen hC j
def zeros1024 : List Value := List.replicate 1024 (.int .i64 0)
theorem zeros_get {j : Nat} (hj : j < 1024) : zeros1024.toArray[j]? = some (.int .i64 0) := by
  rw [List.getElem?_toArray, zeros1024, List.getElem?_replicate, if_pos hj]
theorem zeros_size : zeros1024.toArray.size = 1024 := by
  rw [List.size_toArray, zeros1024, List.length_replicate]
theorem rep_zero : Rep zeros1024.toArray (fun _ => noSpot) :=
  ⟨zeros_size, fun i hi => ⟨zeros_get (by omega), zeros_get (by omega), zeros_get (by omega), zeros_get (by omega)⟩⟩
theorem may_any (n : Int) (w : World) : Calls Try.prog 104 #[.int .i64 n] w fun e w' => e = .returned (.bool (decide (mayI n))) ∧ w' = w := by
  by_cases h0 : 1 ≤ n
  · by_cases h1 : n < 256
    · rw [decide_eq_true (show mayI n from ⟨h0, h1⟩)]
      go_enter Try.func104, Try.ntmps104
      go_wp2
      go_ret
      exact ⟨rfl, rfl⟩
    · rw [decide_eq_false (show ¬ mayI n from fun h => h1 h.2)]
      go_enter Try.func104, Try.ntmps104
      go_wp2
      go_ret
      exact ⟨rfl, rfl⟩
  · rw [decide_eq_false (show ¬ mayI n from fun h => h0 h.1)]
    go_enter Try.func104, Try.ntmps104
    go_wp2
    go_ret
    exact ⟨rfl, rfl⟩
theorem rmay_any (n : Int) (w : World) : Calls Try.prog 102 #[.int .i64 n] w fun e w' => e = .returned (.bool (decide (mayI n))) ∧ w' = w := by
  by_cases h0 : 1 ≤ n
  · by_cases h1 : n < 256
    · rw [decide_eq_true (show mayI n from ⟨h0, h1⟩)]
      go_enter Try.func102, Try.ntmps102
      go_wp2
      go_ret
      exact ⟨rfl, rfl⟩
    · rw [decide_eq_false (show ¬ mayI n from fun h => h1 h.2)]
      go_enter Try.func102, Try.ntmps102
      go_wp2
      go_ret
      exact ⟨rfl, rfl⟩
  · rw [decide_eq_false (show ¬ mayI n from fun h => h0 h.1)]
    go_enter Try.func102, Try.ntmps102
    go_wp2
    go_ret
    exact ⟨rfl, rfl⟩
def Spot.val (x : Spot) : Value := .agg #[.int .i64 x.seg, .int .i64 x.frm, .int .i64 x.len, .int .i64 x.ver]
set_option maxHeartbeats 2000000 in
theorem spot_any (x : Spot) (w : World) : Calls Try.prog 105 #[.agg #[.int .i64 x.seg, .int .i64 x.frm, .int .i64 x.len, .int .i64 x.ver]] w fun e w' => e = .returned (.bool (decide x.ok)) ∧ Below w.heap.size w w' := by
  obtain ⟨a, b, c, d⟩ := x
  dsimp only
  by_cases h0 : 0 ≤ a
  · skip
    by_cases h1 : a < 4096
    · skip
      by_cases h2 : 0 ≤ b
      · skip
        by_cases h3 : b ≤ 65536
        · skip
          by_cases h4 : 0 ≤ c
          · skip
            by_cases h5 : c ≤ 65536
            · skip
              rw [decide_eq_true (show Spot.ok ⟨a, b, c, d⟩ from ⟨h0, h1, h2, h3, h4, h5⟩)]
              go_enter Try.func105, Try.ntmps105
              go_wp2
              go_ret
              exact ⟨rfl, (Below.refl _ _).alloc (Nat.le_refl _) _⟩
            · rw [decide_eq_false (show ¬ Spot.ok ⟨a, b, c, d⟩ from fun h => h5 h.2.2.2.2.2)]
              go_enter Try.func105, Try.ntmps105
              go_wp2
              go_ret
              exact ⟨rfl, (Below.refl _ _).alloc (Nat.le_refl _) _⟩
          · rw [decide_eq_false (show ¬ Spot.ok ⟨a, b, c, d⟩ from fun h => h4 h.2.2.2.2.1)]
            go_enter Try.func105, Try.ntmps105
            go_wp2
            go_ret
            exact ⟨rfl, (Below.refl _ _).alloc (Nat.le_refl _) _⟩
        · rw [decide_eq_false (show ¬ Spot.ok ⟨a, b, c, d⟩ from fun h => h3 h.2.2.2.1)]
          go_enter Try.func105, Try.ntmps105
          go_wp2
          go_ret
          exact ⟨rfl, (Below.refl _ _).alloc (Nat.le_refl _) _⟩
      · rw [decide_eq_false (show ¬ Spot.ok ⟨a, b, c, d⟩ from fun h => h2 h.2.2.1)]
        go_enter Try.func105, Try.ntmps105
        go_wp2
        go_ret
        exact ⟨rfl, (Below.refl _ _).alloc (Nat.le_refl _) _⟩
    · rw [decide_eq_false (show ¬ Spot.ok ⟨a, b, c, d⟩ from fun h => h1 h.2.1)]
      go_enter Try.func105, Try.ntmps105
      go_wp2
      go_ret
      exact ⟨rfl, (Below.refl _ _).alloc (Nat.le_refl _) _⟩
  · rw [decide_eq_false (show ¬ Spot.ok ⟨a, b, c, d⟩ from fun h => h0 h.1)]
    go_enter Try.func105, Try.ntmps105
    go_wp2
    go_ret
    exact ⟨rfl, (Below.refl _ _).alloc (Nat.le_refl _) _⟩
set_option maxHeartbeats 2000000 in
theorem rspot_any (x : Spot) (w : World) : Calls Try.prog 103 #[.agg #[.int .i64 x.seg, .int .i64 x.frm, .int .i64 x.len, .int .i64 x.ver]] w fun e w' => e = .returned (.bool (decide x.ok)) ∧ Below w.heap.size w w' := by
  obtain ⟨a, b, c, d⟩ := x
  dsimp only
  by_cases h0 : 0 ≤ a
  · skip
    by_cases h1 : a < 4096
    · skip
      by_cases h2 : 0 ≤ b
      · skip
        by_cases h3 : b ≤ 65536
        · skip
          by_cases h4 : 0 ≤ c
          · skip
            by_cases h5 : c ≤ 65536
            · skip
              rw [decide_eq_true (show Spot.ok ⟨a, b, c, d⟩ from ⟨h0, h1, h2, h3, h4, h5⟩)]
              go_enter Try.func103, Try.ntmps103
              go_wp2
              go_ret
              exact ⟨rfl, (Below.refl _ _).alloc (Nat.le_refl _) _⟩
            · rw [decide_eq_false (show ¬ Spot.ok ⟨a, b, c, d⟩ from fun h => h5 h.2.2.2.2.2)]
              go_enter Try.func103, Try.ntmps103
              go_wp2
              go_ret
              exact ⟨rfl, (Below.refl _ _).alloc (Nat.le_refl _) _⟩
          · rw [decide_eq_false (show ¬ Spot.ok ⟨a, b, c, d⟩ from fun h => h4 h.2.2.2.2.1)]
            go_enter Try.func103, Try.ntmps103
            go_wp2
            go_ret
            exact ⟨rfl, (Below.refl _ _).alloc (Nat.le_refl _) _⟩
        · rw [decide_eq_false (show ¬ Spot.ok ⟨a, b, c, d⟩ from fun h => h3 h.2.2.2.1)]
          go_enter Try.func103, Try.ntmps103
          go_wp2
          go_ret
          exact ⟨rfl, (Below.refl _ _).alloc (Nat.le_refl _) _⟩
      · rw [decide_eq_false (show ¬ Spot.ok ⟨a, b, c, d⟩ from fun h => h2 h.2.2.1)]
        go_enter Try.func103, Try.ntmps103
        go_wp2
        go_ret
        exact ⟨rfl, (Below.refl _ _).alloc (Nat.le_refl _) _⟩
    · rw [decide_eq_false (show ¬ Spot.ok ⟨a, b, c, d⟩ from fun h => h1 h.2.1)]
      go_enter Try.func103, Try.ntmps103
      go_wp2
      go_ret
      exact ⟨rfl, (Below.refl _ _).alloc (Nat.le_refl _) _⟩
  · rw [decide_eq_false (show ¬ Spot.ok ⟨a, b, c, d⟩ from fun h => h0 h.1)]
    go_enter Try.func103, Try.ntmps103
    go_wp2
    go_ret
    exact ⟨rfl, (Below.refl _ _).alloc (Nat.le_refl _) _⟩
end Go.Proofs.Ytljmaicobafgkaa
end
section
/- Bytes in memory: a row of bytes as a list; string(b) of it. -/
namespace Go.Proofs.Ytljmaicobafgkaa
open Go.RowKit

def byteVals (l : List UInt8) : List Value := l.map fun b => .int .u8 (b.toNat : Int)
theorem byteVals_length (l : List UInt8) : (byteVals l).length = l.length := by simp [byteVals]
theorem byteVals_append (l m : List UInt8) : byteVals (l ++ m) = byteVals l ++ byteVals m := by simp [byteVals]
theorem byteVals_get {l : List UInt8} {j : Nat} (hj : j < l.length) : (byteVals l)[j]? = some (.int .u8 (l[j].toNat : Int)) := by
  simp [byteVals, hj]

/-- The least byte of a number. -/
def ub (n : Int) : UInt8 := UInt8.ofNat (n % 256).toNat
theorem ub_val (n : Int) : ((ub n).toNat : Int) = n % 256 := by
  have h0 := Int.emod_nonneg n (b := 256) (by decide)
  have h1 := Int.emod_lt_of_pos n (b := 256) (by decide)
  simp only [ub, UInt8.toNat_ofNat']
  omega
theorem ub_small {n : Int} (h0 : 0 ≤ n) (h1 : n < 256) : ((ub n).toNat : Int) = n := by rw [ub_val]; omega

/-- string(b), b a slice whose cells are the bytes l. -/
theorem conv_str {w : World} {A : Option Addr} {n cap : Nat} (l : List UInt8) (hn : n = l.length) (hc : ∀ ad, A = some ad → ∀ j u, (byteVals l)[j]? = some u → w.cell? (ad.add j) = some u) (h0 : A = none → l = []) :
    (convert 77 9 (.slice A n cap)).run Try.prog w = .ok (.string ⟨l.toArray⟩) w := by
  subst hn
  rcases A with _ | a
  · have := h0 rfl
    subst this
    rw [Go.run_convert_bytes_string w 77 9 5 none _ cap Try.underlying77 Try.underlying5 Try.underlying9]
    simp [Conv.bytesToString, Sem.run_pure]

    rfl
  · exact run_convert_bytes_back w 77 9 5 a cap l Try.underlying77 Try.underlying5 Try.underlying9 (fun j hj => hc a rfl j _ (byteVals_get hj))

theorem str_size (l : List UInt8) : (⟨l.toArray⟩ : ByteArray).size = l.length := rfl
theorem str_list (l : List UInt8) : (⟨l.toArray⟩ : ByteArray).data.toList = l := rfl
theorem str_eta (s : ByteArray) : (⟨s.data.toList.toArray⟩ : ByteArray) = s := by cases s; rfl
theorem size_list (s : ByteArray) : s.size = s.data.toList.length := rfl

/-- A number in four bytes. -/
def le4 (n : Int) : List UInt8 := [ub n, ub (n / 256), ub (n / 65536), ub (n / 16777216)]

set_option maxRecDepth 100000 in
theorem four_any (n : Int) (w : World) (h0 : 0 ≤ n) (h1 : n < 4294967296) :
    Calls Try.prog 170 #[.int .u32 n] w fun e w' => e = .returned (.string ⟨(le4 n).toArray⟩) ∧ Below w.heap.size w w' := by
  have hcv : (convert 77 9 (.slice (some ⟨w.heap.size, 0, none⟩) 4 4)).run Try.prog (w.alloc (.cells #[.int .u8 (n % 256), .int .u8 (n / 256 % 256), .int .u8 (n / 65536 % 256), .int .u8 (n / 16777216)] 5)) = .ok (.string ⟨(le4 n).toArray⟩) (w.alloc (.cells #[.int .u8 (n % 256), .int .u8 (n / 256 % 256), .int .u8 (n / 65536 % 256), .int .u8 (n / 16777216)] 5)) := by
    refine conv_str (le4 n) rfl (fun ad ha j u hu => ?_) (fun h => by simp at h)
    cases ha
    rw [add_plain', Nat.zero_add, obj_cell (obj_new w _) j]
    rw [← hu]
    match j with
    | 0 => simp [byteVals, le4, ub_val]
    | 1 => simp [byteVals, le4, ub_val]
    | 2 => simp [byteVals, le4, ub_val]
    | 3 => simp [byteVals, le4, ub_small (n := n / 16777216) (by omega) (by omega)]
    | j + 4 => simp [byteVals, le4]
  have HC := hide hcv
  clear hcv
  go_enter Try.func170, Try.ntmps170
  go_wp2
  rw [HC.out]
  go_wp2
  go_ret
  exact ⟨rfl, (Below.refl _ _).alloc (Nat.le_refl _) _⟩
end Go.Proofs.Ytljmaicobafgkaa
end
section
/- Appending bytes: onto a slice that came in full, or onto a row of the call's own. -/
namespace Go.Proofs.Ytljmaicobafgkaa
open Go.RowKit

theorem info5 : (Try.prog.info? 5).map (fun i => (i.zero, i.size, i.bytes)) = some (some (.int .u8 0), 1, 1) := by kernel_rfl

/-- The slice (A, l.length, ..) reads as the bytes l, in blocks below B. -/
def RdB (w : World) (B : Nat) (A : Option Addr) (l : List UInt8) : Prop :=
  (A = none → l = []) ∧ ∀ ad, A = some ad → ad.block < B ∧ ∀ j u, (byteVals l)[j]? = some u → w.cell? (ad.add j) = some u
theorem RdB.below {w w' : World} {B : Nat} {A : Option Addr} {l : List UInt8} (h : RdB w B A l) (hb : Below B w w') : RdB w' B A l :=
  ⟨h.1, fun ad e => ⟨(h.2 ad e).1, fun j u hu => by
    rw [hb.cell (p := ad.add j) (by rw [show (ad.add j).block = ad.block from by unfold Addr.add; split <;> rfl]; exact (h.2 ad e).1)]
    exact (h.2 ad e).2 j u hu⟩⟩
theorem RdB.more {w : World} {B B' : Nat} {A : Option Addr} {l : List UInt8} (h : RdB w B A l) (hB : B ≤ B') : RdB w B' A l :=
  ⟨h.1, fun ad e => ⟨Nat.lt_of_lt_of_le (h.2 ad e).1 hB, (h.2 ad e).2⟩⟩
theorem RdB.nil (w : World) (B : Nat) : RdB w B none [] := ⟨fun _ => rfl, fun _ h => by cases h⟩

/-- A row of bytes that lies from block B on. -/
def OwB (w : World) (B : Nat) (v : Value) (l : List UInt8) : Prop := w.ownsRow B 5 1 v l.length (byteVals l)
theorem OwB.rd {w : World} {B : Nat} {v : Value} {l : List UInt8} (h : OwB w B v l) : ∃ A c, v = .slice A l.length c ∧ l.length ≤ c ∧ RdB w w.heap.size A l := by
  rcases h.2 with ⟨rfl, h0⟩ | ⟨g, cap, cur, rfl, hb, hh, hn, hm, hc, ht⟩
  · have : l = [] := List.eq_nil_of_length_eq_zero h0
    subst this
    exact ⟨none, 0, rfl, Nat.le_refl _, RdB.nil _ _⟩
  · refine ⟨_, _, rfl, hn, fun e => (by cases e), fun ad e => ?_⟩
    cases e
    refine ⟨obj_lt hh, fun j u hu => ?_⟩
    rw [add_plain', obj_cell hh, Nat.zero_add, ← Array.getElem?_toList]
    have hj : j < l.length := by
      have := (List.getElem?_eq_some_iff.1 hu).1
      simpa [byteVals] using this
    rw [← ht, List.getElem?_take] at hu
    simpa [hj] using hu

theorem one_byte (w : World) (b : UInt8) (j : Nat) (u : Value) (hu : ([.int .u8 (b.toNat : Int)] : List Value)[j]? = some u) :
    (w.alloc (.cells #[.int .u8 (b.toNat : Int)] 5)).cell? ((⟨w.heap.size, 0, none⟩ : Addr).add j) = some u := by
  rw [add_plain', Nat.zero_add, obj_cell (obj_new w _)]
  rw [← hu]
  match j with
  | 0 => rfl
  | j + 1 => rfl

section
variable {P : Program} {w : World}
theorem wpList_append_run {ops : Array Oper} {rest : List Oper} {o : Oper} {a : Act} {Q : Exit → Act → World → Prop} (hgd : o.guard = none) (s x : Operand) (t u : TypeId)
    (ho : o.op = .call { callee := .builtin .append, args := #[s, x], argTypes := #[t, u] }) {vs vx v' : Value} {w' : World} (hs : a.eval s = vs) (hx : a.eval x = vx)
    (hrun : (Builtin.append_ #[t, u] o.type #[vs, vx]).run P w = .ok v' w') (h : wpList P ops Q rest (a.put o.dst v') w') : wpList P ops Q (o :: rest) a w := by
  refine wpList_plain hgd fun K hK => ?_
  unfold Oper.wp execOp
  simp only [ho, resolve, invoke, builtin, Sem.run_bind, Sem.run_pure, Result.andThen_ok, List.map_toArray, List.map_cons, List.map_nil, hs, hx, hrun]
  exact hK _ _ h
end

/-- One byte onto a slice that came in full. -/
theorem app_full {w : World} {A : Option Addr} {l : List UInt8} (h : RdB w w.heap.size A l) (b : UInt8) (hl : l.length + 1 ≤ 140737488355328) (ty : TypeId) :
    ∃ v' w', (Builtin.append_ #[77, 77] ty #[.slice A l.length l.length, .slice (some ⟨w.heap.size, 0, none⟩) 1 1]).run Try.prog (w.alloc (.cells #[.int .u8 (b.toNat : Int)] 5)) = .ok v' w' ∧
      OwB w' w.heap.size v' (l ++ [b]) ∧ Below w.heap.size w w' := by
  obtain ⟨i0, hi0, hz0, hz1, hz2⟩ := info_parts info5
  have hb0 := (Below.refl w.heap.size w).alloc (Nat.le_refl _) (.cells #[.int .u8 (b.toNat : Int)] 5)
  rcases A with _ | ad
  · have : l = [] := h.1 rfl
    subst this
    obtain ⟨v', w', hrun, hown, hg, _, _⟩ := run_append_own_at (P := Try.prog) (w.alloc (.cells #[.int .u8 (b.toNat : Int)] 5)) w.heap.size 77 ty 5 i0 (.int .u8 0) 1 1 Try.underlying77 hi0 hz0 hz1 hz2 rfl (by decide) (.slice none 0 0) 0 [] (World.ownsRow_nil _ _ _ _) ⟨w.heap.size, 0, none⟩ 1 1 [.int .u8 (b.toNat : Int)] rfl (one_byte w b) (by simp [Value.oneCell']) (by simp [maxLen]) (by decide) (by simp)
    exact ⟨v', w', hrun, by simpa [OwB, byteVals] using hown, hb0.grown hg (by simp) (by simp [Value.ownBlock])⟩
  · have hlen : (byteVals l).length = l.length * 1 := by simp [byteVals]
    obtain ⟨v', w', hrun, hown, hg⟩ := run_append_arg_grows (P := Try.prog) (w.alloc (.cells #[.int .u8 (b.toNat : Int)] 5)) 77 ty 5 i0 (.int .u8 0) 1 1 Try.underlying77 hi0 hz0 hz1 hz2 rfl (by decide) ad l.length l.length (byteVals l) hlen
      (fun j u hu => ((h.more (Nat.le_refl _)).below hb0).2 ad rfl |>.2 j u hu) ⟨w.heap.size, 0, none⟩ 1 1 [.int .u8 (b.toNat : Int)] rfl (one_byte w b) (by omega) (by simp only [maxLen]; omega) (by omega)
    refine ⟨v', w', hrun, ?_, hb0.grown hg (by simp) (by simp)⟩
    have e : byteVals (l ++ [b]) = byteVals l ++ [.int .u8 (b.toNat : Int)] := by simp [byteVals]
    unfold OwB
    rw [e, List.length_append]
    refine ⟨hown.1, hown.2.imp id ?_⟩
    rintro ⟨g, cap, cur, h1, h2, h3⟩
    refine ⟨g, cap, cur, h1, Nat.le_trans ?_ h2, h3⟩
    simp

/-- One byte onto a row of the call's own. -/
theorem app_own {w : World} {B : Nat} {v : Value} {l : List UInt8} (h : OwB w B v l) (b : UInt8) (hl : l.length + 1 ≤ 140737488355328) (hB : B ≤ w.heap.size) (ty : TypeId) :
    ∃ v' w', (Builtin.append_ #[77, 77] ty #[v, .slice (some ⟨w.heap.size, 0, none⟩) 1 1]).run Try.prog (w.alloc (.cells #[.int .u8 (b.toNat : Int)] 5)) = .ok v' w' ∧
      OwB w' B v' (l ++ [b]) ∧ Below B w w' := by
  obtain ⟨i0, hi0, hz0, hz1, hz2⟩ := info_parts info5
  have hb0 := (Below.refl B w).alloc hB (.cells #[.int .u8 (b.toNat : Int)] 5)
  obtain ⟨v', w', hrun, hown, hg, _, _⟩ := run_append_own_at (P := Try.prog) (w.alloc (.cells #[.int .u8 (b.toNat : Int)] 5)) B 77 ty 5 i0 (.int .u8 0) 1 1 Try.underlying77 hi0 hz0 hz1 hz2 rfl (by decide) v l.length (byteVals l) (h.alloc _) ⟨w.heap.size, 0, none⟩ 1 1 [.int .u8 (b.toNat : Int)] rfl (one_byte w b) (by simp [Value.oneCell']) (by simp only [maxLen]; omega) (by omega) (by simp; omega)
  have e : byteVals (l ++ [b]) = byteVals l ++ [.int .u8 (b.toNat : Int)] := by simp [byteVals]
  refine ⟨v', w', hrun, by unfold OwB; rw [e, List.length_append]; exact hown, hb0.grown hg (by simp; omega) (fun k hk => ?_)⟩
  rcases h.2 with ⟨rfl, _⟩ | ⟨g, cap, cur, rfl, hb, _⟩
  · simp [Value.ownBlock] at hk
  · simp [Value.ownBlock] at hk
    omega
end Go.Proofs.Ytljmaicobafgkaa
end
