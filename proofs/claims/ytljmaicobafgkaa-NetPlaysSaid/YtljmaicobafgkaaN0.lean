/- A join of 7 texts of this claim: Base, Bytes, App, Zig, Num, Writer, Groups. Conditions: none of their own. -/
import Derived.Test.YtljmaicobafgkaaProg
import Derived.Below
import Derived.Deep.Draws
import Derived.Deep.AppendLies
import Derived.Maps.AppendAt
import Derived.OwnWalk
import Derived.Laws.BytesArg
import Derived.Laws.MakeOwn
import Derived.Laws.OwnMore
import Derived.Deep.OwnRows
import Derived.Tactics
import Derived.Tactics2
import Derived.Lib.ConvBytes
import Derived.Laws.Slices
import Derived.WalkKit
import Derived.KernelRfl
import Derived.RowKit3
import Derived.Deep.LoopGhost
import Derived.Deep.QuietTactic
import Derived.BigQuiet
import Derived.WideLaws
import Derived.Deep.DeepCutAuto
import Derived.Deep.CutBlock
import Derived.Deep.RegionHeld3
import Derived.Laws.Rows
import Derived.Lib.AppendStr
import Derived.ArgAppend
import Derived.Laws.IdiomCopy
import Derived.OrdersHeld
import Derived.Laws.BitsLemmas
import Derived.RowKit
import Derived.Outline
import Derived.WalkLawsBesides
import Derived.StillTailTactics
import Derived.ScopeJumps
import Derived.Lib.Hide
import Derived.ShutString
import Derived.Laws.IdiomStrings
import Derived.Laws.BitsAllLaws
section
/- Base words of this seat: what a call may have turned in memory (Fr), and the imports that all texts share. No statement of its own. -/
namespace Go.Proofs.Ytljmaicobafgkaa
open Go.RowKit

/-- What was there, but for the blocks of F, is as it was; the streams are as they were. -/
structure Fr (F : Nat → Prop) (w w' : World) : Prop where
  os : w'.os = w.os
  tape : w'.tape = w.tape
  output : w'.output = w.output
  size : w.heap.size ≤ w'.heap.size
  block : ∀ k, k < w.heap.size → ¬ F k → w'.heap[k]? = w.heap[k]?

theorem Fr.refl (F : Nat → Prop) (w : World) : Fr F w w := ⟨rfl, rfl, rfl, Nat.le_refl _, fun _ _ _ => rfl⟩
theorem Fr.mono {F G : Nat → Prop} {w w' : World} (h : Fr F w w') (hFG : ∀ k, k < w.heap.size → F k → G k) : Fr G w w' :=
  ⟨h.os, h.tape, h.output, h.size, fun k hk hg => h.block k hk (fun hf => hg (hFG k hk hf))⟩
/-- One behind the other: the second one may also turn what the first one made. -/
theorem Fr.trans {F G : Nat → Prop} {a b c : World} (h : Fr F a b) (k : Fr G b c) (hG : ∀ i, i < a.heap.size → G i → F i) : Fr F a c :=
  ⟨k.os.trans h.os, k.tape.trans h.tape, k.output.trans h.output, Nat.le_trans h.size k.size,
    fun i hi hf => (k.block i (Nat.lt_of_lt_of_le hi h.size) (fun hg => hf (hG i hi hg))).trans (h.block i hi hf)⟩
theorem Fr.drew {F : Nat → Prop} {a w : World} (h : Fr F a w) : Fr F a w.drew := ⟨h.os, h.tape, h.output, h.size, h.block⟩
theorem Fr.drewN {F : Nat → Prop} {a w : World} (h : Fr F a w) (n : Nat) : Fr F a (w.drewN n) := ⟨h.os, h.tape, h.output, h.size, h.block⟩
theorem Fr.alloc {F : Nat → Prop} {a w : World} (h : Fr F a w) (o : Obj) : Fr F a (w.alloc o) :=
  ⟨h.os, h.tape, h.output, Nat.le_trans h.size (by simp), fun i hi hf => (Below.heap_alloc w o i (Nat.lt_of_lt_of_le hi h.size)).trans (h.block i hi hf)⟩
theorem Fr.setCell {F : Nat → Prop} {a w : World} (h : Fr F a w) {p : Addr} (hp : p.block < a.heap.size → F p.block) (u : Value) : Fr F a (w.setCell p u) :=
  ⟨h.os, h.tape, h.output, by simpa [World.setCell] using h.size, fun i hi hf => (Below.heap_setCell w p u i (by
    rintro rfl
    exact hf (hp hi))).trans (h.block i hi hf)⟩
theorem Fr.grown {F : Nat → Prop} {a w w' : World} {row : Option Nat} (h : Fr F a w) (hg : w.grownBy w' row) (hr : ∀ k, row = some k → k < a.heap.size → F k) : Fr F a w' :=
  ⟨hg.os.trans h.os, hg.tape.trans h.tape, hg.output.trans h.output, Nat.le_trans h.size hg.size, fun i hi hf =>
    (hg.block i (Nat.lt_of_lt_of_le hi h.size) (fun e => hf (hr i e.symm hi))).trans (h.block i hi hf)⟩
theorem Fr.of_below {F : Nat → Prop} {a w : World} (h : Below a.heap.size a w) : Fr F a w := ⟨h.os, h.tape, h.output, h.size, fun k hk _ => h.block k hk⟩
theorem Fr.then_below {F : Nat → Prop} {a w w' : World} (h : Fr F a w) (k : Below w.heap.size w w') : Fr F a w' :=
  h.trans (Fr.of_below (F := F) k) (fun _ _ hf => hf)
theorem Fr.below {F : Nat → Prop} {a w : World} (h : Fr F a w) (B : Nat) (hB : B ≤ a.heap.size) (hF : ∀ k, k < B → ¬ F k) : Below B a w :=
  ⟨h.os, h.tape, h.output, h.size, fun k hk => h.block k (by omega) (hF k hk)⟩
theorem Fr.none_below {a w : World} (h : Fr (fun _ => False) a w) : Below a.heap.size a w := h.below _ (Nat.le_refl _) (fun _ _ hf => hf)
theorem Fr.obj {F : Nat → Prop} {a w : World} (h : Fr F a w) {k : Nat} {o : Obj} (ho : a.heap[k]? = some o) (hk : ¬ F k) : w.heap[k]? = some o :=
  (h.block k (Array.getElem?_eq_some_iff.1 ho).1 hk).trans ho
theorem obj_lt {w : World} {k : Nat} {o : Obj} (h : w.heap[k]? = some o) : k < w.heap.size := (Array.getElem?_eq_some_iff.1 h).1
theorem obj_cell {w : World} {k : Nat} {cs : Array Value} {t : TypeId} {f : Nat × Nat} (h : w.heap[k]? = some (.cells cs t f)) (i : Nat) : w.cell? ⟨k, i, none⟩ = cs[i]? := cell_of_row w k i cs t f h
theorem obj_frozen {w : World} {k : Nat} {cs : Array Value} {t : TypeId} (h : w.heap[k]? = some (.cells cs t (0, 0))) (i : Nat) : w.frozen? ⟨k, i, none⟩ = false := by simp [World.frozen?, h]
theorem obj_set {w : World} {k : Nat} {cs : Array Value} {t : TypeId} (h : w.heap[k]? = some (.cells cs t (0, 0))) (i : Nat) (u : Value) : (w.setCell ⟨k, i, none⟩ u).heap[k]? = some (.cells (cs.setIfInBounds i u) t (0, 0)) := by
  simp [World.setCell, Array.getElem?_modify, h]
theorem obj_far {w : World} {k : Nat} {o : Obj} (h : w.heap[k]? = some o) {p : Addr} (hp : k ≠ p.block) (u : Value) : (w.setCell p u).heap[k]? = some o := (Below.heap_setCell w p u k hp).trans h
theorem obj_alloc {w : World} {k : Nat} {o : Obj} (h : w.heap[k]? = some o) (o' : Obj) : (w.alloc o').heap[k]? = some o := (Below.heap_alloc w o' k (obj_lt h)).trans h
theorem obj_new (w : World) (o : Obj) : (w.alloc o).heap[w.heap.size]? = some o := heap_alloc_new w o
theorem obj_below {w w1 : World} {k : Nat} {o : Obj} (h : w.heap[k]? = some o) (hb : Below w.heap.size w w1) : w1.heap[k]? = some o := (hb.block k (obj_lt h)).trans h
theorem add_plain' (g o j : Nat) : (⟨g, o, none⟩ : Addr).add j = ⟨g, o + j, none⟩ := by unfold Addr.add; split <;> simp_all
/-- A region that draws its order: n quiet operations, then a tail in one order; over the world's own word for a draw. -/
theorem wp_stl {P : Program} {id : Nat} {Q : Exit → Act → World → Prop} {a : Act} {w : World} {l : List Oper} (n : Nat) (hm : P.follows .mixedOrders = true) (hB : Region.lexTailB .any l.toArray n = true)
    (h : wpStill P l.toArray w.drew (fun a' => wpList P l.toArray Q (l.drop n) a' w.drew) (l.take n) a) : (Code.region id l.toArray true).wp P Q a w :=
  wp_region_still_tail n hm hB h
/-- Two results, the first one a struct in memory. -/
theorem res_ct {P : Program} {fn : Func} {p u : Tmp} {ty : TypeId} (h : fn.results = #[.cell p ty, .tmp u]) (tmps : Array Value) (w : World) (g : Nat) (t : TypeId) (cs : Array Value) (fr : Nat × Nat) (d : TypeDesc)
    (hp : tmps.getD p undef = .pointer (some ⟨g, 0, none⟩)) (hg : w.heap[g]? = some (.cells cs t fr)) (hu : P.underlying ty = some d) (hd : (match d with | .struct _ | .array _ _ => true | _ => false) = true)
    (hi : (P.info? ty).map (·.size) = some cs.size) : (results fn tmps).run P w = .ok (.tuple #[.agg cs, tmps.getD u undef]) w := by
  have hp' : tmps[p]?.getD undef = .pointer (some ⟨g, 0, none⟩) := by simpa using hp
  simp [results, h, hp', asAddr, run_loadVar_row w g t ty cs fr d hg hu hd hi]
theorem undrew {w w' : World} (h : Below w.drew.heap.size w.drew w') : Below w.heap.size w w' := ⟨h.os, h.tape, h.output, h.size, h.block⟩
theorem hide {p : Prop} (h : p) : Hid p := h
end Go.Proofs.Ytljmaicobafgkaa
end
section
/- Bytes in memory: a row of bytes as a list; string(b) of it. -/
namespace Go.Proofs.Ytljmaicobafgkaa
open Go.RowKit

def byteVals (l : List UInt8) : List Value := l.map fun b => .int .u8 (b.toNat : Int)
theorem byteVals_length (l : List UInt8) : (byteVals l).length = l.length := by simp [byteVals]
theorem byteVals_append (l m : List UInt8) : byteVals (l ++ m) = byteVals l ++ byteVals m := by simp [byteVals]
theorem byteVals_get {l : List UInt8} {j : Nat} (hj : j < l.length) : (byteVals l)[j]? = some (.int .u8 (l[j].toNat : Int)) := by
  simp [byteVals, hj]

/-- The least byte of a number. -/
def ub (n : Int) : UInt8 := UInt8.ofNat (n % 256).toNat
theorem ub_val (n : Int) : ((ub n).toNat : Int) = n % 256 := by
  have h0 := Int.emod_nonneg n (b := 256) (by decide)
  have h1 := Int.emod_lt_of_pos n (b := 256) (by decide)
  simp only [ub, UInt8.toNat_ofNat']
  omega
theorem ub_small {n : Int} (h0 : 0 ≤ n) (h1 : n < 256) : ((ub n).toNat : Int) = n := by rw [ub_val]; omega

/-- string(b), b a slice whose cells are the bytes l. -/
theorem conv_str {w : World} {A : Option Addr} {n cap : Nat} (l : List UInt8) (hn : n = l.length) (hc : ∀ ad, A = some ad → ∀ j u, (byteVals l)[j]? = some u → w.cell? (ad.add j) = some u) (h0 : A = none → l = []) :
    (convert 77 9 (.slice A n cap)).run Try.prog w = .ok (.string ⟨l.toArray⟩) w := by
  subst hn
  rcases A with _ | a
  · have := h0 rfl
    subst this
    rw [Go.run_convert_bytes_string w 77 9 5 none _ cap Try.underlying77 Try.underlying5 Try.underlying9]
    simp [Conv.bytesToString, Sem.run_pure]

    rfl
  · exact run_convert_bytes_back w 77 9 5 a cap l Try.underlying77 Try.underlying5 Try.underlying9 (fun j hj => hc a rfl j _ (byteVals_get hj))

theorem str_size (l : List UInt8) : (⟨l.toArray⟩ : ByteArray).size = l.length := rfl
theorem str_list (l : List UInt8) : (⟨l.toArray⟩ : ByteArray).data.toList = l := rfl
theorem str_eta (s : ByteArray) : (⟨s.data.toList.toArray⟩ : ByteArray) = s := by cases s; rfl
theorem size_list (s : ByteArray) : s.size = s.data.toList.length := rfl

/-- A number in four bytes. -/
def le4 (n : Int) : List UInt8 := [ub n, ub (n / 256), ub (n / 65536), ub (n / 16777216)]

set_option maxRecDepth 100000 in
theorem four_any (n : Int) (w : World) (h0 : 0 ≤ n) (h1 : n < 4294967296) :
    Calls Try.prog 170 #[.int .u32 n] w fun e w' => e = .returned (.string ⟨(le4 n).toArray⟩) ∧ Below w.heap.size w w' := by
  have hcv : (convert 77 9 (.slice (some ⟨w.heap.size, 0, none⟩) 4 4)).run Try.prog (w.alloc (.cells #[.int .u8 (n % 256), .int .u8 (n / 256 % 256), .int .u8 (n / 65536 % 256), .int .u8 (n / 16777216)] 5)) = .ok (.string ⟨(le4 n).toArray⟩) (w.alloc (.cells #[.int .u8 (n % 256), .int .u8 (n / 256 % 256), .int .u8 (n / 65536 % 256), .int .u8 (n / 16777216)] 5)) := by
    refine conv_str (le4 n) rfl (fun ad ha j u hu => ?_) (fun h => by simp at h)
    cases ha
    rw [add_plain', Nat.zero_add, obj_cell (obj_new w _) j]
    rw [← hu]
    match j with
    | 0 => simp [byteVals, le4, ub_val]
    | 1 => simp [byteVals, le4, ub_val]
    | 2 => simp [byteVals, le4, ub_val]
    | 3 => simp [byteVals, le4, ub_small (n := n / 16777216) (by omega) (by omega)]
    | j + 4 => simp [byteVals, le4]
  have HC := hide hcv
  clear hcv
  go_enter Try.func170, Try.ntmps170
  go_wp2
  rw [HC.out]
  go_wp2
  go_ret
  exact ⟨rfl, (Below.refl _ _).alloc (Nat.le_refl _) _⟩
end Go.Proofs.Ytljmaicobafgkaa
end
section
/- Appending bytes: onto a slice that came in full, or onto a row of the call's own. -/
namespace Go.Proofs.Ytljmaicobafgkaa
open Go.RowKit

theorem info5 : (Try.prog.info? 5).map (fun i => (i.zero, i.size, i.bytes)) = some (some (.int .u8 0), 1, 1) := by kernel_rfl

/-- The slice (A, l.length, ..) reads as the bytes l, in blocks below B. -/
def RdB (w : World) (B : Nat) (A : Option Addr) (l : List UInt8) : Prop :=
  (A = none → l = []) ∧ ∀ ad, A = some ad → ad.block < B ∧ ∀ j u, (byteVals l)[j]? = some u → w.cell? (ad.add j) = some u
theorem RdB.below {w w' : World} {B : Nat} {A : Option Addr} {l : List UInt8} (h : RdB w B A l) (hb : Below B w w') : RdB w' B A l :=
  ⟨h.1, fun ad e => ⟨(h.2 ad e).1, fun j u hu => by
    rw [hb.cell (p := ad.add j) (by rw [show (ad.add j).block = ad.block from by unfold Addr.add; split <;> rfl]; exact (h.2 ad e).1)]
    exact (h.2 ad e).2 j u hu⟩⟩
theorem RdB.more {w : World} {B B' : Nat} {A : Option Addr} {l : List UInt8} (h : RdB w B A l) (hB : B ≤ B') : RdB w B' A l :=
  ⟨h.1, fun ad e => ⟨Nat.lt_of_lt_of_le (h.2 ad e).1 hB, (h.2 ad e).2⟩⟩
theorem RdB.nil (w : World) (B : Nat) : RdB w B none [] := ⟨fun _ => rfl, fun _ h => by cases h⟩

/-- A row of bytes that lies from block B on. -/
def OwB (w : World) (B : Nat) (v : Value) (l : List UInt8) : Prop := w.ownsRow B 5 1 v l.length (byteVals l)
theorem OwB.rd {w : World} {B : Nat} {v : Value} {l : List UInt8} (h : OwB w B v l) : ∃ A c, v = .slice A l.length c ∧ l.length ≤ c ∧ RdB w w.heap.size A l := by
  rcases h.2 with ⟨rfl, h0⟩ | ⟨g, cap, cur, rfl, hb, hh, hn, hm, hc, ht⟩
  · have : l = [] := List.eq_nil_of_length_eq_zero h0
    subst this
    exact ⟨none, 0, rfl, Nat.le_refl _, RdB.nil _ _⟩
  · refine ⟨_, _, rfl, hn, fun e => (by cases e), fun ad e => ?_⟩
    cases e
    refine ⟨obj_lt hh, fun j u hu => ?_⟩
    rw [add_plain', obj_cell hh, Nat.zero_add, ← Array.getElem?_toList]
    have hj : j < l.length := by
      have := (List.getElem?_eq_some_iff.1 hu).1
      simpa [byteVals] using this
    rw [← ht, List.getElem?_take] at hu
    simpa [hj] using hu

theorem one_byte (w : World) (b : UInt8) (j : Nat) (u : Value) (hu : ([.int .u8 (b.toNat : Int)] : List Value)[j]? = some u) :
    (w.alloc (.cells #[.int .u8 (b.toNat : Int)] 5)).cell? ((⟨w.heap.size, 0, none⟩ : Addr).add j) = some u := by
  rw [add_plain', Nat.zero_add, obj_cell (obj_new w _)]
  rw [← hu]
  match j with
  | 0 => rfl
  | j + 1 => rfl

section
variable {P : Program} {w : World}
theorem wpList_append_run {ops : Array Oper} {rest : List Oper} {o : Oper} {a : Act} {Q : Exit → Act → World → Prop} (hgd : o.guard = none) (s x : Operand) (t u : TypeId)
    (ho : o.op = .call { callee := .builtin .append, args := #[s, x], argTypes := #[t, u] }) {vs vx v' : Value} {w' : World} (hs : a.eval s = vs) (hx : a.eval x = vx)
    (hrun : (Builtin.append_ #[t, u] o.type #[vs, vx]).run P w = .ok v' w') (h : wpList P ops Q rest (a.put o.dst v') w') : wpList P ops Q (o :: rest) a w := by
  refine wpList_plain hgd fun K hK => ?_
  unfold Oper.wp execOp
  simp only [ho, resolve, invoke, builtin, Sem.run_bind, Sem.run_pure, Result.andThen_ok, List.map_toArray, List.map_cons, List.map_nil, hs, hx, hrun]
  exact hK _ _ h
end

/-- One byte onto a slice that came in full. -/
theorem app_full {w : World} {A : Option Addr} {l : List UInt8} (h : RdB w w.heap.size A l) (b : UInt8) (hl : l.length + 1 ≤ 140737488355328) (ty : TypeId) :
    ∃ v' w', (Builtin.append_ #[77, 77] ty #[.slice A l.length l.length, .slice (some ⟨w.heap.size, 0, none⟩) 1 1]).run Try.prog (w.alloc (.cells #[.int .u8 (b.toNat : Int)] 5)) = .ok v' w' ∧
      OwB w' w.heap.size v' (l ++ [b]) ∧ Below w.heap.size w w' := by
  obtain ⟨i0, hi0, hz0, hz1, hz2⟩ := info_parts info5
  have hb0 := (Below.refl w.heap.size w).alloc (Nat.le_refl _) (.cells #[.int .u8 (b.toNat : Int)] 5)
  rcases A with _ | ad
  · have : l = [] := h.1 rfl
    subst this
    obtain ⟨v', w', hrun, hown, hg, _, _⟩ := run_append_own_at (P := Try.prog) (w.alloc (.cells #[.int .u8 (b.toNat : Int)] 5)) w.heap.size 77 ty 5 i0 (.int .u8 0) 1 1 Try.underlying77 hi0 hz0 hz1 hz2 rfl (by decide) (.slice none 0 0) 0 [] (World.ownsRow_nil _ _ _ _) ⟨w.heap.size, 0, none⟩ 1 1 [.int .u8 (b.toNat : Int)] rfl (one_byte w b) (by simp [Value.oneCell']) (by simp [maxLen]) (by decide) (by simp)
    exact ⟨v', w', hrun, by simpa [OwB, byteVals] using hown, hb0.grown hg (by simp) (by simp [Value.ownBlock])⟩
  · have hlen : (byteVals l).length = l.length * 1 := by simp [byteVals]
    obtain ⟨v', w', hrun, hown, hg⟩ := run_append_arg_grows (P := Try.prog) (w.alloc (.cells #[.int .u8 (b.toNat : Int)] 5)) 77 ty 5 i0 (.int .u8 0) 1 1 Try.underlying77 hi0 hz0 hz1 hz2 rfl (by decide) ad l.length l.length (byteVals l) hlen
      (fun j u hu => ((h.more (Nat.le_refl _)).below hb0).2 ad rfl |>.2 j u hu) ⟨w.heap.size, 0, none⟩ 1 1 [.int .u8 (b.toNat : Int)] rfl (one_byte w b) (by omega) (by simp only [maxLen]; omega) (by omega)
    refine ⟨v', w', hrun, ?_, hb0.grown hg (by simp) (by simp)⟩
    have e : byteVals (l ++ [b]) = byteVals l ++ [.int .u8 (b.toNat : Int)] := by simp [byteVals]
    unfold OwB
    rw [e, List.length_append]
    refine ⟨hown.1, hown.2.imp id ?_⟩
    rintro ⟨g, cap, cur, h1, h2, h3⟩
    refine ⟨g, cap, cur, h1, Nat.le_trans ?_ h2, h3⟩
    simp

/-- One byte onto a row of the call's own. -/
theorem app_own {w : World} {B : Nat} {v : Value} {l : List UInt8} (h : OwB w B v l) (b : UInt8) (hl : l.length + 1 ≤ 140737488355328) (hB : B ≤ w.heap.size) (ty : TypeId) :
    ∃ v' w', (Builtin.append_ #[77, 77] ty #[v, .slice (some ⟨w.heap.size, 0, none⟩) 1 1]).run Try.prog (w.alloc (.cells #[.int .u8 (b.toNat : Int)] 5)) = .ok v' w' ∧
      OwB w' B v' (l ++ [b]) ∧ Below B w w' := by
  obtain ⟨i0, hi0, hz0, hz1, hz2⟩ := info_parts info5
  have hb0 := (Below.refl B w).alloc hB (.cells #[.int .u8 (b.toNat : Int)] 5)
  obtain ⟨v', w', hrun, hown, hg, _, _⟩ := run_append_own_at (P := Try.prog) (w.alloc (.cells #[.int .u8 (b.toNat : Int)] 5)) B 77 ty 5 i0 (.int .u8 0) 1 1 Try.underlying77 hi0 hz0 hz1 hz2 rfl (by decide) v l.length (byteVals l) (h.alloc _) ⟨w.heap.size, 0, none⟩ 1 1 [.int .u8 (b.toNat : Int)] rfl (one_byte w b) (by simp [Value.oneCell']) (by simp only [maxLen]; omega) (by omega) (by simp; omega)
  have e : byteVals (l ++ [b]) = byteVals l ++ [.int .u8 (b.toNat : Int)] := by simp [byteVals]
  refine ⟨v', w', hrun, by unfold OwB; rw [e, List.length_append]; exact hown, hb0.grown hg (by simp; omega) (fun k hk => ?_)⟩
  rcases h.2 with ⟨rfl, _⟩ | ⟨g, cap, cur, rfl, hb, _⟩
  · simp [Value.ownBlock] at hk
  · simp [Value.ownBlock] at hk
    omega
end Go.Proofs.Ytljmaicobafgkaa
end
section
/- Numbers as bytes: plain arithmetic of zigzag and seven-bit groups. -/
namespace Go.Proofs.Ytljmaicobafgkaa
open Go.RowKit

/-- Seven bits a byte, the least first. -/
def numN (u : Nat) : List UInt8 := if h : u < 128 then [UInt8.ofNat u] else UInt8.ofNat (u % 128 + 128) :: numN (u / 128)
termination_by u
decreasing_by omega
def zz (n : Int) : Nat := if 0 ≤ n then (2 * n).toNat else (-2 * n - 1).toNat
def num (n : Int) : List UInt8 := numN (zz n)
theorem numN_small {u : Nat} (h : u < 128) : numN u = [UInt8.ofNat u] := by rw [numN]; simp [h]
theorem numN_large {u : Nat} (h : ¬ u < 128) : numN u = UInt8.ofNat (u % 128 + 128) :: numN (u / 128) := by rw [numN]; simp [h]
theorem numN_length : ∀ (k u : Nat), u < 128 ^ (k + 1) → (numN u).length ≤ k + 1
  | 0, u, h => by rw [numN_small (by simpa using h)]; simp
  | k + 1, u, h => by
    by_cases hu : u < 128
    · rw [numN_small hu]; simp
    · rw [numN_large hu]
      have := numN_length k (u / 128) (by rw [Nat.pow_succ] at h; exact Nat.div_lt_of_lt_mul (by rw [Nat.mul_comm]; exact h))
      simp only [List.length_cons]
      omega
theorem numN_ten (u : Nat) (h : u < 18446744073709551616) : (numN u).length ≤ 10 := numN_length 9 u (Nat.lt_of_lt_of_le h (by decide))
theorem numN_pos (u : Nat) : 1 ≤ (numN u).length := by
  by_cases hu : u < 128
  · rw [numN_small hu]; simp
  · rw [numN_large hu]; simp

theorem zz_lt (n : Int) (h0 : -9223372036854775808 ≤ n) (h1 : n ≤ 9223372036854775807) : zz n < 18446744073709551616 := by
  unfold zz; split <;> omega

theorem xor_u64_zero (a : Nat) (ha : a < 18446744073709551616) : bits .xor .u64 (a : Int) 0 = (a : Int) := by
  show IntKind.u64.wrap ((BitVec.ofInt 64 (a : Int) ^^^ BitVec.ofInt 64 0).toNat : Int) = _
  have h : (BitVec.ofInt 64 (a : Int) ^^^ BitVec.ofInt 64 0).toNat = a := by
    rw [BitVec.toNat_xor, BitVec.ofInt_natCast, BitVec.toNat_ofNat]
    simp
    omega
  rw [h]
  show (a : Int) % 18446744073709551616 = _
  omega
theorem not_u64 (a : Nat) (ha : a < 18446744073709551616) : bits .xor .u64 (a : Int) 18446744073709551615 = ((18446744073709551615 - a : Nat) : Int) := by
  show IntKind.u64.wrap ((BitVec.ofInt 64 (a : Int) ^^^ BitVec.ofInt 64 18446744073709551615).toNat : Int) = _
  have h : BitVec.ofInt 64 (a : Int) ^^^ BitVec.ofInt 64 18446744073709551615 = ~~~ (BitVec.ofNat 64 a) := by
    rw [BitVec.ofInt_natCast]
    have : BitVec.ofInt 64 18446744073709551615 = BitVec.allOnes 64 := by decide
    rw [this, BitVec.xor_allOnes]
  rw [h, BitVec.toNat_not, BitVec.toNat_ofNat]
  show (((2 ^ 64 - 1 - a % 2 ^ 64 : Nat)) : Int) % 18446744073709551616 = _
  omega
theorem zig (n : Int) (h0 : -9223372036854775808 ≤ n) (h1 : n ≤ 9223372036854775807) :
    bits .xor .u64 (IntKind.u64.wrap (IntKind.u64.wrap n * 2)) (IntKind.u64.wrap (n / 9223372036854775808)) = (zz n : Int) := by
  have hw : ∀ x : Int, IntKind.u64.wrap x = x % 18446744073709551616 := fun x => rfl
  simp only [hw]
  by_cases hn : 0 ≤ n
  · have e1 : n / 9223372036854775808 % 18446744073709551616 = 0 := by omega
    have e2 : n % 18446744073709551616 * 2 % 18446744073709551616 = ((2 * n).toNat : Int) := by omega
    rw [e1, e2, xor_u64_zero _ (by omega)]
    simp [zz, hn]
  · have e1 : n / 9223372036854775808 % 18446744073709551616 = 18446744073709551615 := by omega
    have e2 : n % 18446744073709551616 * 2 % 18446744073709551616 = ((2 * n + 18446744073709551616).toNat : Int) := by omega
    rw [e1, e2, not_u64 _ (by omega)]
    simp only [zz, hn, if_false]
    omega
theorem or128 (u : Nat) : bits .or .u8 ((u : Int) % 256) 128 = ((UInt8.ofNat (u % 128 + 128)).toNat : Int) := by
  have h : ∀ a : Fin 256, bits .or .u8 ((a.val : Nat) : Int) 128 = ((a.val % 128 + 128 : Nat) : Int) := by decide +kernel
  have h1 := h ⟨u % 256, Nat.mod_lt _ (by decide)⟩
  have e : ((u : Int) % 256) = ((u % 256 : Nat) : Int) := by omega
  rw [e, h1]
  simp only [UInt8.toNat_ofNat']
  omega
end Go.Proofs.Ytljmaicobafgkaa
end
section
/- The walks of codec.number, text, and the closures that lay one thing. -/
namespace Go.Proofs.Ytljmaicobafgkaa
open Go.RowKit

set_option maxRecDepth 100000 in
theorem byte1_any (A : Option Addr) (l : List UInt8) (g : Nat) (n : Int) (w : World) (h : RdB w w.heap.size A l) (hl : l.length ≤ 1048576) (hc : w.cell? ⟨g, 0, none⟩ = some (.int .i64 n)) :
    Calls Try.prog 173 #[.slice A l.length l.length, .pointer (some ⟨g, 0, none⟩)] w fun e w' => ∃ v, e = .returned v ∧ OwB w' w.heap.size v (l ++ [ub n]) ∧ Below w.heap.size w w' := by
  obtain ⟨v', w', hrun, hown, hb⟩ := app_full h (ub n) (by omega) 77
  rw [ub_val] at hrun
  go_enter Try.func173, Try.ntmps173
  go_wp2_with (at_builtin; refine wpList_append_run rfl (.tmp 4) (.tmp 7) 77 77 rfl rfl rfl hrun ?_)
  go_ret
  exact ⟨v', rfl, hown, hb⟩

/-- What number's loop has come to. -/
def NumS (w0 : World) (A : Option Addr) (l0 : List UInt8) (z : Nat) (w : World) (v uv : Value) : Prop :=
  ∃ (l : List UInt8) (u : Nat), uv = .int .u64 u ∧ l ++ numN u = l0 ++ numN z ∧ u < 18446744073709551616 ∧ Below w0.heap.size w0 w ∧ l0.length ≤ l.length ∧
    ((v = .slice A l0.length l0.length ∧ l = l0) ∨ OwB w w0.heap.size v l)
theorem numS_app {w wr : World} {A : Option Addr} {l l1 : List UInt8} {v : Value} (HR : RdB w w.heap.size A l) (hbel : Below w.heap.size w wr) (hlen2 : l1.length ≤ 2097152)
    (hv : (v = .slice A l.length l.length ∧ l1 = l) ∨ OwB wr w.heap.size v l1) (b : UInt8) :
    ∃ v' w', (Builtin.append_ #[77, 77] 77 #[v, .slice (some ⟨wr.heap.size, 0, none⟩) 1 1]).run Try.prog (wr.alloc (.cells #[.int .u8 (b.toNat : Int)] 5)) = .ok v' w' ∧
          OwB w' w.heap.size v' (l1 ++ [b]) ∧ Below w.heap.size w w' := by
  rcases hv with ⟨rfl, rfl⟩ | hv
  · obtain ⟨v', w', hrun, hown, hb⟩ := app_full ((HR.below hbel).more hbel.size) b (by omega) 77
    exact ⟨v', w', hrun, ⟨hown.1, hown.2.imp id (fun ⟨g, cap, cur, h1, h2, h3⟩ => ⟨g, cap, cur, h1, Nat.le_trans hbel.size h2, h3⟩)⟩, hbel.trans (hb.mono hbel.size)⟩
  · obtain ⟨v', w', hrun, hown, hb⟩ := app_own hv b (by omega) hbel.size 77
    exact ⟨v', w', hrun, hown, hbel.trans hb⟩

set_option maxRecDepth 100000 in
theorem number_any (A : Option Addr) (l : List UInt8) (n : Int) (w : World) (h : RdB w w.heap.size A l) (hl : l.length ≤ 1048576) (h0 : -9223372036854775808 ≤ n) (h1 : n ≤ 9223372036854775807) :
    Calls Try.prog 163 #[.slice A l.length l.length, .int .i64 n] w fun e w' => ∃ v, e = .returned v ∧ OwB w' w.heap.size v (l ++ num n) ∧ Below w.heap.size w w' := by
  have HR := hide h
  clear h
  go_enter Try.func163, Try.ntmps163
  go_wp2
  rw [zig n h0 h1]
  go_loopw [0, 5] (fun v uv wr => NumS w A l (zz n) wr v uv) (fun _ uv _ => (intOf uv).toNat)
  case atStart => exact ⟨l, zz n, rfl, rfl, zz_lt n h0 h1, Below.refl _ _, Nat.le_refl _, .inl ⟨rfl, rfl⟩⟩
  case round =>
    obtain ⟨l1, u, rfl, hlist, hu, hbel, hlen, hv⟩ := hrel
    have hlen2 : l1.length ≤ 2097152 := by
      have h3 := congrArg List.length hlist
      have h2 := numN_ten (zz n) (zz_lt n h0 h1)
      simp only [List.length_append] at h3
      omega
    have HL := hide hlist
    clear hlist
    by_cases hsm : u < 128
    · obtain ⟨v', w', hrun, hown, hb⟩ := numS_app HR.out hbel hlen2 hv (UInt8.ofNat u)
      have hx : ((UInt8.ofNat u).toNat : Int) = (u : Int) := by simp only [UInt8.toNat_ofNat']; omega
      rw [hx] at hrun
      clear hv hx
      have hfin : l1 ++ [UInt8.ofNat u] = l ++ num n := by rw [← numN_small hsm]; exact HL.out
      rw [hfin] at hown
      clear hfin hbel
      go_wp2_with (at_builtin; refine wpList_append_run rfl (.tmp 23) (.tmp 26) 77 77 rfl rfl rfl hrun ?_)
      go_ret
      exact ⟨v', rfl, hown, hb⟩
    · obtain ⟨v', w', hrun, hown, hb⟩ := numS_app HR.out hbel hlen2 hv (UInt8.ofNat (u % 128 + 128))
      rw [← or128] at hrun
      have hnext : (l1 ++ [UInt8.ofNat (u % 128 + 128)]) ++ numN (u / 128) = l ++ numN (zz n) := by rw [List.append_assoc, List.singleton_append, ← numN_large hsm]; exact HL.out
      have HN := hide hnext
      clear hv hnext hbel
      go_wp2_with (at_builtin; refine wpList_append_run rfl (.tmp 17) (.tmp 21) 77 77 rfl rfl rfl hrun ?_)
      go_roundw
      case rel => exact ⟨_, u / 128, by go_num, HN.out, by omega, hb, by simp; omega, .inr hown⟩
      case measure => simp [intOf]; omega
end Go.Proofs.Ytljmaicobafgkaa
end
section
/- The walks of codec.Writer. -/
namespace Go.Proofs.Ytljmaicobafgkaa
open Go.RowKit

/-- Block g is a Writer: its bound, its bytes, its error. -/
def Wr (w : World) (g : Nat) (most : Int) (l : List UInt8) (e : Int) : Prop :=
  ∃ A c, w.heap[g]? = some (.cells #[.int .i64 most, .slice A l.length c, .int .i64 e] 243 (0, 0)) ∧ l.length ≤ c ∧ RdB w w.heap.size A l ∧ ∀ ad, A = some ad → ∃ cs f, w.heap[ad.block]? = some (.cells cs 5 f)
theorem RdB.fr {F : Nat → Prop} {w w' : World} {B : Nat} {A : Option Addr} {l : List UInt8} (h : RdB w B A l) (hf : Fr F w w') (hB : B ≤ w.heap.size) (hn : ∀ ad, A = some ad → ¬ F ad.block) : RdB w' B A l :=
  ⟨h.1, fun ad e => ⟨(h.2 ad e).1, fun j u hu => by
    have hb : (ad.add j).block = ad.block := by unfold Addr.add; split <;> rfl
    rw [World.cell?_of_block (w := w) (w' := w') (a := ad.add j) (by rw [hb]; exact hf.block _ (Nat.lt_of_lt_of_le (h.2 ad e).1 hB) (hn ad e))]
    exact (h.2 ad e).2 j u hu⟩⟩
/-- A Writer stays, where nothing of it is turned. -/
theorem Wr.fr {F : Nat → Prop} {w w' : World} {g : Nat} {most e : Int} {l : List UInt8} (h : Wr w g most l e) (hf : Fr F w w') (hg : ¬ F g) (hF : ∀ k, F k → ∀ cs f, w.heap[k]? ≠ some (.cells cs 5 f)) : Wr w' g most l e := by
  obtain ⟨A, c, hb, hc, hr, ht⟩ := h
  have hn : ∀ ad, A = some ad → ¬ F ad.block := fun ad ea hfa => by
    obtain ⟨cs, f, h5⟩ := ht ad ea
    exact hF _ hfa cs f h5
  exact ⟨A, c, hf.obj hb hg, hc, (hr.fr hf (Nat.le_refl _) hn).more hf.size, fun ad ea => by
    obtain ⟨cs, f, h5⟩ := ht ad ea
    exact ⟨cs, f, hf.obj h5 (hn ad ea)⟩⟩
theorem Wr.below {w w' : World} {g : Nat} {most e : Int} {l : List UInt8} (h : Wr w g most l e) (hb : Below w.heap.size w w') : Wr w' g most l e :=
  h.fr (F := fun _ => False) (Fr.of_below hb) (fun h => h) (fun _ h => h.elim)
theorem Wr.lt {w : World} {g : Nat} {most e : Int} {l : List UInt8} (h : Wr w g most l e) : g < w.heap.size := by
  obtain ⟨A, c, hb, _⟩ := h
  exact obj_lt hb

theorem OwB.lt5 {w : World} {B : Nat} {v : Value} {l : List UInt8} (h : OwB w B v l) : ∀ ad n c, v = .slice (some ad) n c → B ≤ ad.block ∧ ∃ cs f, w.heap[ad.block]? = some (.cells cs 5 f) := by
  intro ad n c hv
  rcases h.2 with ⟨rfl, _⟩ | ⟨g, cap, cur, rfl, hb, hh, _⟩
  · cases hv
  · cases hv
    exact ⟨hb, _, _, hh⟩

theorem obj_ne {w : World} {k g : Nat} {cs cs' : Array Value} {t t' : TypeId} {f f' : Nat × Nat} (h : w.heap[k]? = some (.cells cs t f)) (h' : w.heap[g]? = some (.cells cs' t' f')) (hne : t ≠ t') : k ≠ g := by
  rintro rfl
  rw [h] at h'
  injection h' with h'
  injection h' with _ h2
  exact hne h2
theorem wr_rd {w' : World} {g B : Nat} {A : Option Addr} {l : List UInt8} (h : RdB w' B A l) (hB : B ≤ w'.heap.size) (hn : ∀ ad, A = some ad → ad.block ≠ g) (j : Nat) (u : Value) :
    RdB (w'.setCell ⟨g, j, none⟩ u) (w'.setCell ⟨g, j, none⟩ u).heap.size A l :=
  (h.fr (F := (· = g)) ((Fr.refl (· = g) _).setCell (p := ⟨g, j, none⟩) (fun _ => rfl) u) hB (fun ad e => hn ad e)).more (by simpa [World.setCell] using hB)

theorem newWriter_any (n : Int) (w : World) (h0 : 0 ≤ n) (h1 : n ≤ 65536) :
    Calls Try.prog 107 #[.int .i64 n] w fun e w' => e = .returned (.pointer (some ⟨w.heap.size, 0, none⟩)) ∧ Wr w' w.heap.size n [] 0 ∧ Below w.heap.size w w' := by
  go_enter Try.func107, Try.ntmps107
  go_wp2
  go_ret
  exact ⟨rfl, ⟨none, 0, by simpa using obj_new w _, Nat.le_refl _, RdB.nil _ _, fun ad h => by cases h⟩, (Below.refl _ _).alloc (Nat.le_refl _) _⟩

def layTo (most : Int) (l x : List UInt8) : List UInt8 := if most < (l ++ x).length then l else l ++ x
def layErr (most : Int) (l x : List UInt8) : Int := if most < (l ++ x).length then 2 else 0
/-- What a closure that lays x must do. -/
def Lays (w : World) (fid cb : Nat) (l x : List UInt8) : Prop :=
  ∀ (w1 : World) (A : Option Addr), w1.heap = w.heap → RdB w1 w1.heap.size A l →
    Calls Try.prog fid #[.slice A l.length l.length, .pointer (some ⟨cb, 0, none⟩)] w1 fun e w' => ∃ v, e = .returned v ∧ OwB w' w1.heap.size v (l ++ x) ∧ Below w1.heap.size w1 w'
set_option maxRecDepth 100000 in
theorem lay_any (g fid cb : Nat) (most : Int) (l x : List UInt8) (w : World) (hW : Wr w g most l 0) (hcl : Lays w fid cb l x) (hcf : ∀ (args : Array Value) (w1 : World), (callFunc fid args).run Try.prog w1 = .ok (.enter fid args) w1) :
    Calls Try.prog 161 #[.pointer (some ⟨g, 0, none⟩), .func (.func fid) #[] #[.pointer (some ⟨cb, 0, none⟩)]] w fun e w' => e = .returned (.tuple #[]) ∧ Wr w' g most (layTo most l x) (layErr most l x) ∧ Fr (· = g) w w' := by
  obtain ⟨A, c, hb, hc, hr, ht⟩ := hW
  have c0 := obj_cell hb 0
  have c1 := obj_cell hb 1
  have c2 := obj_cell hb 2
  simp only [List.getElem?_toArray, List.getElem?_cons_zero, List.getElem?_cons_succ] at c0 c1 c2
  go_enter Try.func161, Try.ntmps161
  go_wp2_with fail
  go_still_tail 16, (by kernel_rfl)
  change wpList _ _ _ _ _ w.drew
  obtain ⟨w2, hw2⟩ : ∃ w2, w2 = w.drew := ⟨_, rfl⟩
  rw [← hw2]
  have hh : w2.heap = w.heap := by rw [hw2]; rfl
  have hr2 : RdB w2 w2.heap.size A l := by rw [hw2]; exact hr
  have hbel : Below w.heap.size w w2 := by rw [hw2]; exact (Below.refl w.heap.size w).drew
  have H2 := hide hw2
  have HH := hide hh
  have HR := hide hr2
  have HR0 := hide hr
  have HB := hide hbel
  clear hw2 hh hr2 hbel
  have HC := hide hcl
  clear hcl
  have HT := hide ht
  clear ht
  have HBk := hide hb
  clear hb
  go_wp2_with fail
  refine (HC.out w2 A HH.out HR.out).mono ?_
  rintro e w' ⟨v, rfl, hown, hb2⟩
  obtain ⟨m, hm⟩ : ∃ m, m = l ++ x := ⟨_, rfl⟩
  rw [← hm] at hown
  have HM := hide hm
  clear hm
  have hlt := hown.lt5
  obtain ⟨A2, cp2, rfl, hcp, hr3⟩ := hown.rd
  have hbl : Below w.heap.size w w' := HB.out.trans (hb2.mono HB.out.size)
  have hg : g < w.heap.size := obj_lt HBk.out
  have hbk : w'.heap[g]? = some (.cells #[.int .i64 most, .slice A l.length c, .int .i64 0] 243 (0, 0)) := obj_below HBk.out hbl
  have d0 := obj_cell hbk 0
  have d1 := obj_cell hbk 1
  have d2 := obj_cell hbk 2
  have f1 := obj_frozen hbk 1
  have f2 := obj_frozen hbk 2
  simp only [List.getElem?_toArray, List.getElem?_cons_zero, List.getElem?_cons_succ] at d0 d1 d2
  have HBL := hide hbl
  have HBK := hide hbk
  have HR3 := hide hr3
  have HLT := hide hlt
  clear hbl hbk hr3 hlt hown c0 c1 c2 hr hb2
  by_cases hfit : most < (m.length : Int)
  · go_wp2
    refine bodyPost_ret (results_none rfl _ _ _) rfl ?_
    refine ⟨rfl, ?_, ?_⟩
    · rw [layTo, layErr, ← HM.out, if_pos hfit, if_pos hfit]
      refine ⟨A, c, by simpa using obj_set HBK.out 2 _, hc, ?_, ?_⟩
      · exact wr_rd (HR0.out.below HBL.out) HBL.out.size (fun ad e => by
          obtain ⟨cs, f, h5⟩ := HT.out ad e
          exact obj_ne (obj_below h5 HBL.out) HBK.out (by decide)) _ _
      · intro ad e
        obtain ⟨cs, f, h5⟩ := HT.out ad e
        exact ⟨cs, f, obj_far (obj_below h5 HBL.out) (obj_ne (obj_below h5 HBL.out) HBK.out (by decide)) _⟩
    · exact (Fr.of_below (F := (· = g)) HBL.out).setCell (p := ⟨g, 2, none⟩) (fun _ => rfl) _
  · go_wp2
    go_end0
    refine ⟨rfl, ?_, ?_⟩
    · rw [layTo, layErr, ← HM.out, if_neg (Int.not_lt.2 hfit), if_neg (Int.not_lt.2 hfit)]
      refine ⟨A2, cp2, by simpa using obj_set HBK.out 1 _, hcp, ?_, ?_⟩
      · exact wr_rd HR3.out (Nat.le_refl _) (fun ad e => by
          obtain ⟨_, cs, f, h5⟩ := HLT.out ad _ _ (by rw [e])
          exact obj_ne h5 HBK.out (by decide)) _ _
      · intro ad e
        obtain ⟨_, cs, f, h5⟩ := HLT.out ad _ _ (by rw [e])
        exact ⟨cs, f, obj_far h5 (obj_ne h5 HBK.out (by decide)) _⟩
    · exact (Fr.of_below (F := (· = g)) HBL.out).setCell (p := ⟨g, 1, none⟩) (fun _ => rfl) _

/-- A Writer with an error lays nothing. -/
theorem lay_err (g : Nat) (F : Value) (most e : Int) (he : e ≠ 0) (l : List UInt8) (w : World) (hW : Wr w g most l e) :
    Calls Try.prog 161 #[.pointer (some ⟨g, 0, none⟩), F] w fun e w' => e = .returned (.tuple #[]) ∧ Below w.heap.size w w' := by
  obtain ⟨A, c, hb, hc, hr, ht⟩ := hW
  have c2 := obj_cell hb 2
  simp only [List.getElem?_toArray, List.getElem?_cons_zero, List.getElem?_cons_succ] at c2
  have he2 : (e == 0) = false := by simp [he]
  have he3 : (e != 0) = true := by simp [he]
  clear he
  go_enter Try.func161, Try.ntmps161
  go_wp2
  refine bodyPost_ret (results_none rfl _ _ _) rfl ?_
  exact ⟨rfl, Below.refl _ _⟩

theorem cf162 (args : Array Value) (w1 : World) : (callFunc 162 args).run Try.prog w1 = .ok (.enter 162 args) w1 := by go_simp
theorem cf173 (args : Array Value) (w1 : World) : (callFunc 173 args).run Try.prog w1 = .ok (.enter 173 args) w1 := by go_simp
theorem cf182 (args : Array Value) (w1 : World) : (callFunc 182 args).run Try.prog w1 = .ok (.enter 182 args) w1 := by go_simp

theorem int1_any (A : Option Addr) (l : List UInt8) (g : Nat) (n : Int) (w : World) (h : RdB w w.heap.size A l) (hl : l.length ≤ 1048576) (hc : w.cell? ⟨g, 0, none⟩ = some (.int .i64 n)) (h0 : -9223372036854775808 ≤ n) (h1 : n ≤ 9223372036854775807) :
    Calls Try.prog 162 #[.slice A l.length l.length, .pointer (some ⟨g, 0, none⟩)] w fun e w' => ∃ v, e = .returned v ∧ OwB w' w.heap.size v (l ++ num n) ∧ Below w.heap.size w w' := by
  have HR := hide h
  clear h
  go_enter Try.func162, Try.ntmps162
  go_wp2_with fail
  refine (number_any A l n _ HR.out hl h0 h1).mono ?_
  rintro e w' ⟨v, rfl, hown, hb⟩
  go_wp2
  go_ret
  exact ⟨v, rfl, hown, hb⟩

/-- What Writer.Int does to a Writer. -/
theorem wInt_ok (g : Nat) (most : Int) (l : List UInt8) (n : Int) (w : World) (hW : Wr w g most l 0) (hl : l.length ≤ 1048576) (h0 : -9223372036854775808 ≤ n) (h1 : n ≤ 9223372036854775807) :
    Calls Try.prog 108 #[.pointer (some ⟨g, 0, none⟩), .int .i64 n] w fun e w' => e = .returned (.tuple #[]) ∧ Wr w' g most (layTo most l (num n)) (layErr most l (num n)) ∧ Fr (· = g) w w' := by
  have HW := hide (hW.below ((Below.refl _ _).alloc (Nat.le_refl _) (.cells #[.int .i64 n] 3)))
  have hg := hW.lt
  clear hW
  go_enter Try.func108, Try.ntmps108
  go_wp2_with fail
  refine (lay_any g 162 w.heap.size most l (num n) _ HW.out (fun w1 A hh hr => int1_any A l _ n w1 hr hl ?_ h0 h1) cf162).mono ?_
  · have : w1.heap[w.heap.size]? = some (.cells #[.int .i64 n] 3) := by rw [hh]; exact obj_new w _
    simpa using obj_cell this 0
  · rintro e w' ⟨rfl, hw', hf⟩
    go_wp2
    go_end0
    exact ⟨rfl, hw', ((Fr.refl _ _).alloc _).trans hf (fun _ _ h => h)⟩
theorem wInt_fits (g : Nat) (most : Int) (l : List UInt8) (n : Int) (w : World) (hW : Wr w g most l 0) (hl : l.length ≤ 1048576) (h0 : -9223372036854775808 ≤ n) (h1 : n ≤ 9223372036854775807) (hfit : (l.length : Int) + 10 ≤ most) :
    Calls Try.prog 108 #[.pointer (some ⟨g, 0, none⟩), .int .i64 n] w fun e w' => e = .returned (.tuple #[]) ∧ Wr w' g most (l ++ num n) 0 ∧ Fr (· = g) w w' := by
  refine (wInt_ok g most l n w hW hl h0 h1).mono ?_
  rintro e w' ⟨rfl, hw, hf⟩
  have hlen := numN_ten (zz n) (zz_lt n h0 h1)
  have hn : ¬ most < ((l ++ num n).length : Int) := by
    rw [List.length_append]
    unfold num
    omega
  rw [layTo, layErr, if_neg hn, if_neg hn] at hw
  exact ⟨rfl, hw, hf⟩

set_option maxRecDepth 100000 in
/-- Writer.Byte, of a byte. -/
theorem wByte_fits (g : Nat) (most : Int) (l : List UInt8) (n : Int) (w : World) (hW : Wr w g most l 0) (hl : l.length ≤ 1048576) (h0 : 0 ≤ n) (h1 : n ≤ 255) (hfit : (l.length : Int) + 1 ≤ most) :
    Calls Try.prog 129 #[.pointer (some ⟨g, 0, none⟩), .int .i64 n] w fun e w' => e = .returned (.tuple #[]) ∧ Wr w' g most (l ++ [ub n]) 0 ∧ Fr (· = g) w w' := by
  have hW1 := hW.below ((Below.refl _ _).alloc (Nat.le_refl _) (.cells #[.int .i64 n] 3))
  have hg := hW.lt
  have HW := hide hW1
  obtain ⟨A, c, hb, hc, hr, ht⟩ := hW1
  have c2 := obj_cell hb 2
  simp only [List.getElem?_toArray, List.getElem?_cons_zero, List.getElem?_cons_succ] at c2
  clear hW hb hc hr ht
  have hn1 : decide (n < 0) = false := by simp; omega
  have hn2 : decide (255 < n) = false := by simp; omega
  go_enter Try.func129, Try.ntmps129
  go_wp2_with fail
  refine (lay_any g 173 w.heap.size most l [ub n] _ HW.out (fun w1 A hh hr => byte1_any A l _ n w1 hr hl ?_) cf173).mono ?_
  · have : w1.heap[w.heap.size]? = some (.cells #[.int .i64 n] 3) := by rw [hh]; exact obj_new w _
    simpa using obj_cell this 0
  · rintro e w' ⟨rfl, hw', hf⟩
    go_wp2
    go_end0
    have hn : ¬ most < ((l ++ [ub n]).length : Int) := by simp; omega
    rw [layTo, layErr, if_neg hn, if_neg hn] at hw'
    exact ⟨rfl, hw', ((Fr.refl _ _).alloc _).trans hf (fun _ _ h => h)⟩

theorem strCells_bytes (s : ByteArray) : Lib.strCells s = byteVals s.data.toList := by
  simp [Lib.strCells, byteVals]

theorem app_str {w : World} {B : Nat} {v : Value} {l : List UInt8} (h : OwB w B v l) (s : ByteArray) (hl : l.length + s.size ≤ 140737488355328) (hB : B ≤ w.heap.size) (ty : TypeId) :
    ∃ v' w', (Builtin.append_ #[77, 9] ty #[v, .string s]).run Try.prog w = .ok v' w' ∧ OwB w' B v' (l ++ s.data.toList) ∧ Below B w w' := by
  obtain ⟨i0, hi0, hz0, hz1, hz2⟩ := info_parts info5
  obtain ⟨v', w', hrun, hown, hg, _⟩ := Lib.run_append_own_string (P := Try.prog) w B 77 9 ty 5 i0 Try.underlying77 Try.underlying9 hi0 hz0 hz1 hz2 v l.length (byteVals l) h s (by simp only [maxLen]; omega) (by omega) hB
  refine ⟨v', w', hrun, ?_, (Below.refl B w).grown hg hB (fun k hk => ?_)⟩
  · unfold OwB
    rw [byteVals_append, List.length_append, ← size_list, ← strCells_bytes]
    exact hown
  · rcases h.2 with ⟨rfl, _⟩ | ⟨g, cap, cur, rfl, hb, _⟩
    · simp [Value.ownBlock] at hk
    · simp [Value.ownBlock] at hk
      omega

def textB (s : List UInt8) : List UInt8 := num s.length ++ s
set_option maxRecDepth 100000 in
theorem text_any (A : Option Addr) (l : List UInt8) (s : ByteArray) (w : World) (h : RdB w w.heap.size A l) (hl : l.length ≤ 1048576) (hs : s.size ≤ 1048576) :
    Calls Try.prog 183 #[.slice A l.length l.length, .string s] w fun e w' => ∃ v, e = .returned v ∧ OwB w' w.heap.size v (l ++ textB s.data.toList) ∧ Below w.heap.size w w' := by
  have HR := hide h
  clear h
  go_enter Try.func183, Try.ntmps183
  go_wp2_with fail
  refine (number_any A l s.size _ HR.out hl (by omega) (by omega)).mono ?_
  rintro e w1 ⟨v, rfl, hown, hb⟩
  have hz := zz_lt (s.size : Int) (by omega) (by omega)
  have hlen := numN_ten _ hz
  obtain ⟨v2, w2, hrun, hown2, hb2⟩ := app_str hown s (by rw [List.length_append]; unfold num; omega) hb.size 77
  have HB := hide (hb.trans hb2)
  have HO := hide hown2
  clear hb hown hb2 hown2 hz
  go_wp2_with (at_builtin; refine wpList_append_run rfl (.tmp 8) (.tmp 9) 77 9 rfl rfl rfl hrun ?_)
  go_ret
  refine ⟨v2, rfl, ?_, HB.out⟩
  have := HO.out
  rw [List.append_assoc] at this
  exact this
theorem text1_any (A : Option Addr) (l : List UInt8) (g : Nat) (s : ByteArray) (w : World) (h : RdB w w.heap.size A l) (hl : l.length ≤ 1048576) (hs : s.size ≤ 1048576) (hc : w.cell? ⟨g, 0, none⟩ = some (.string s)) :
    Calls Try.prog 182 #[.slice A l.length l.length, .pointer (some ⟨g, 0, none⟩)] w fun e w' => ∃ v, e = .returned v ∧ OwB w' w.heap.size v (l ++ textB s.data.toList) ∧ Below w.heap.size w w' := by
  have HR := hide h
  clear h
  go_enter Try.func182, Try.ntmps182
  go_wp2_with fail
  refine (text_any A l s _ HR.out hl hs).mono ?_
  rintro e w' ⟨v, rfl, hown, hb⟩
  go_wp2
  go_ret
  exact ⟨v, rfl, hown, hb⟩
theorem wText_fits (g : Nat) (most : Int) (l : List UInt8) (s : ByteArray) (w : World) (hW : Wr w g most l 0) (hl : l.length ≤ 1048576) (hs : s.size ≤ 1048576) (hfit : (l.length : Int) + s.size + 10 ≤ most) :
    Calls Try.prog 168 #[.pointer (some ⟨g, 0, none⟩), .string s] w fun e w' => e = .returned (.tuple #[]) ∧ Wr w' g most (l ++ textB s.data.toList) 0 ∧ Fr (· = g) w w' := by
  have HW := hide (hW.below ((Below.refl _ _).alloc (Nat.le_refl _) (.cells #[.string s] 9)))
  have hg := hW.lt
  clear hW
  go_enter Try.func168, Try.ntmps168
  go_wp2_with fail
  refine (lay_any g 182 w.heap.size most l (textB s.data.toList) _ HW.out (fun w1 A hh hr => text1_any A l _ s w1 hr hl hs ?_) cf182).mono ?_
  · have : w1.heap[w.heap.size]? = some (.cells #[.string s] 9) := by rw [hh]; exact obj_new w _
    simpa using obj_cell this 0
  · rintro e w' ⟨rfl, hw', hf⟩
    go_wp2
    go_end0
    have hz := zz_lt (s.size : Int) (by omega) (by omega)
    have hlen := numN_ten _ hz
    have hn : ¬ most < ((l ++ textB s.data.toList).length : Int) := by
      rw [List.length_append]
      unfold textB num
      rw [List.length_append, ← size_list]
      omega
    rw [layTo, layErr, if_neg hn, if_neg hn] at hw'
    exact ⟨rfl, hw', ((Fr.refl _ _).alloc _).trans hf (fun _ _ h => h)⟩

theorem wDone_ok (g : Nat) (most : Int) (l : List UInt8) (w : World) (hW : Wr w g most l 0) :
    Calls Try.prog 109 #[.pointer (some ⟨g, 0, none⟩)] w fun e w' => e = .returned (.tuple #[.string ⟨l.toArray⟩, .int .i64 0]) ∧ w = w' := by
  obtain ⟨A, c, hb, hc, hr, ht⟩ := hW
  have c1 := obj_cell hb 1
  have c2 := obj_cell hb 2
  simp only [List.getElem?_toArray, List.getElem?_cons_zero, List.getElem?_cons_succ] at c1 c2
  have hcv : (convert 77 9 (.slice A l.length c)).run Try.prog w = .ok (.string ⟨l.toArray⟩) w := conv_str l rfl (fun ad e => (hr.2 ad e).2) hr.1
  clear hb hc hr ht
  go_enter Try.func109, Try.ntmps109
  go_wp2
  go_ret2
  exact ⟨rfl, rfl⟩
end Go.Proofs.Ytljmaicobafgkaa
end
section
/- The walk of codec.groups. -/
namespace Go.Proofs.Ytljmaicobafgkaa
open Go.RowKit

theorem bits_u64 (op : BinOp) (a b : Int) : 0 ≤ bits op .u64 a b ∧ bits op .u64 a b < 18446744073709551616 := by
  have h : ∀ x : Int, 0 ≤ IntKind.u64.wrap x ∧ IntKind.u64.wrap x < 18446744073709551616 := fun x => by
    simp only [IntKind.wrap]
    exact ⟨Int.emod_nonneg _ (by decide), Int.emod_lt_of_pos _ (by decide)⟩
  unfold bits
  split <;> exact h _
theorem wr_byte (b : UInt8) : IntKind.u64.wrap (b.toNat : Int) = (b.toNat : Int) := by
  have := b.toNat_lt
  show (b.toNat : Int) % 18446744073709551616 = _
  omega
/-- One group more. -/
def gStep (u : Int) (b : UInt8) (k : Nat) : Int := bits .or .u64 u (IntKind.u64.wrap (bits .and .u64 (IntKind.u64.wrap (b.toNat : Int)) 127 * 2 ^ (7 * k)))
/-- The number of groups, from the k-th on, as the code reckons it. -/
def grpR : List UInt8 → Nat → Int → Option (Int × Nat)
  | [], _, _ => none
  | b :: r, k, u => if 10 ≤ k then none else if 128 ≤ b.toNat then grpR r (k + 1) (gStep u b k) else if (0 < k ∧ b.toNat = 0) ∨ (k = 9 ∧ 1 < b.toNat) then none else some (gStep u b k, k + 1)
def grpV (o : Option (Int × Nat)) : Value :=
  match o with
  | none => .tuple #[.int .u64 0, .int .i64 0]
  | some (u, n) => .tuple #[.int .u64 u, .int .i64 n]
def GrpS (s : ByteArray) (q i : Value) : Prop :=
  ∃ (k : Nat) (u : Int), i = .int .i64 k ∧ q = .int .u64 u ∧ k ≤ s.size ∧ k ≤ 10 ∧ 0 ≤ u ∧ u < 18446744073709551616 ∧ Hid (grpR (s.data.toList.drop k) k u = grpR s.data.toList 0 0)
theorem drop_at (s : ByteArray) (k : Nat) (h : k < s.size) : s.data.toList.drop k = s[k] :: s.data.toList.drop (k + 1) := by
  rw [List.drop_eq_getElem_cons (by simpa using h)]
  rfl
theorem grp_go {b : UInt8} {r : List UInt8} {k : Nat} {u : Int} (hk : k < 10) (hb : 128 ≤ IntKind.u64.wrap (b.toNat : Int)) : grpR (b :: r) k u = grpR r (k + 1) (gStep u b k) := by
  rw [wr_byte] at hb
  rw [grpR, if_neg (by omega), if_pos (by omega)]
theorem grp_bad {b : UInt8} {r : List UInt8} {k : Nat} {u : Int} (h : (0 < k ∧ IntKind.u64.wrap (b.toNat : Int) = 0) ∨ (k = 9 ∧ 1 < IntKind.u64.wrap (b.toNat : Int))) (hb : IntKind.u64.wrap (b.toNat : Int) < 128) : grpR (b :: r) k u = none := by
  rw [wr_byte] at h hb
  by_cases hk : 10 ≤ k
  · rw [grpR, if_pos hk]
  · rw [grpR, if_neg hk, if_neg (by omega), if_pos (by omega)]
theorem grp_end {b : UInt8} {r : List UInt8} {k : Nat} {u : Int} (hk : k < 10) (h1 : 0 < k → IntKind.u64.wrap (b.toNat : Int) ≠ 0) (h2 : k = 9 → IntKind.u64.wrap (b.toNat : Int) ≤ 1) (hb : IntKind.u64.wrap (b.toNat : Int) < 128) : grpR (b :: r) k u = some (gStep u b k, k + 1) := by
  rw [wr_byte] at h1 h2 hb
  have hn : ¬ ((0 < k ∧ b.toNat = 0) ∨ (k = 9 ∧ 1 < b.toNat)) := by
    rintro (⟨a, c⟩ | ⟨a, c⟩)
    · exact h1 a (by omega)
    · have := h2 a
      omega
  rw [grpR, if_neg (by omega), if_neg (by omega), if_neg hn]
theorem grp_over {l : List UInt8} {u : Int} : grpR l 10 u = none := by
  cases l with
  | nil => rfl
  | cons b r => rw [grpR, if_pos (by omega)]
theorem iret2 {a b : Int} {n m : Int} (h : a = b) (h' : n = m) : Ending.returned (.tuple #[.int .u64 a, .int .i64 n]) = Ending.returned (.tuple #[.int .u64 b, .int .i64 m]) := by rw [h, h']

set_option maxRecDepth 100000 in
theorem groups_short (s : ByteArray) (w : World) (hs : s.size ≤ 9223372036854775807) (h10 : s.size ≤ 10) :
    Calls Try.prog 164 #[.string s] w fun e w' => e = .returned (grpV (grpR s.data.toList 0 0)) ∧ w = w' := by
  go_enter Try.func164, Try.ntmps164
  go_wp2
  go_loop [4, 5, 6, 10] (fun q _ _ i => GrpS s q i) (fun _ _ _ i => 10 - (intOf i).toNat)
  case atStart => exact ⟨0, 0, rfl, rfl, by omega, by omega, by omega, by omega, by exact rfl⟩
  case round =>
    obtain ⟨k, u, rfl, rfl, hk, hk2, hu0, hu1, HK⟩ := hrel
    by_cases hlt : k < s.size
    · have hks : k < s.size := by omega
      have hd := hide (drop_at s k hks)
      go_wp2
      · have h1 : 128 ≤ IntKind.u64.wrap (s[k].toNat : Int) := by assumption
        go_round
        case rel => exact ⟨k + 1, gStep u s[k] k, by go_num, rfl, by omega, by omega, (bits_u64 _ _ _).1, (bits_u64 _ _ _).2, by
          have := HK.out
          rw [hd.out, grp_go (by omega) h1] at this
          exact this⟩
        case measure => simp [intOf]; omega
      · have h1 : IntKind.u64.wrap (s[k].toNat : Int) < 128 := by assumption
        have h2 : IntKind.u64.wrap (s[k].toNat : Int) = 0 := by assumption
        have h3 : 0 < k := by assumption
        go_ret2
        refine ⟨?_, rfl⟩
        rw [← HK.out, hd.out, grp_bad (.inl ⟨h3, h2⟩) h1]
        rfl
      · have h1 : IntKind.u64.wrap (s[k].toNat : Int) < 128 := by assumption
        have h2 : ¬ IntKind.u64.wrap (s[k].toNat : Int) = 0 := by assumption
        have h3 : (IntKind.u64.wrap (s[k].toNat : Int) == 0) = true ∨ 1 < IntKind.u64.wrap (s[k].toNat : Int) := by assumption
        have h4 : (k : Int) = 9 := by assumption
        have h5 : 1 < IntKind.u64.wrap (s[k].toNat : Int) := by
          rcases h3 with h3 | h3
          · exact absurd (by simpa using h3) h2
          · exact h3
        go_ret2
        refine ⟨?_, rfl⟩
        rw [← HK.out, hd.out, grp_bad (.inr ⟨by omega, h5⟩) h1]
        rfl
      · have h1 : IntKind.u64.wrap (s[k].toNat : Int) < 128 := by assumption
        have h2 : ¬ IntKind.u64.wrap (s[k].toNat : Int) = 0 := by assumption
        have h3 : (IntKind.u64.wrap (s[k].toNat : Int) == 0) = false ∧ IntKind.u64.wrap (s[k].toNat : Int) ≤ 1 := by assumption
        have h4 : (k : Int) = 9 := by assumption
        go_ret2
        refine ⟨?_, rfl⟩
        rw [← HK.out, hd.out, grp_end (by omega) (fun _ => h2) (fun _ => h3.2) h1]
        exact iret2 rfl (by omega)
      · have h1 : IntKind.u64.wrap (s[k].toNat : Int) < 128 := by assumption
        have h2 : ¬ IntKind.u64.wrap (s[k].toNat : Int) = 0 := by assumption
        have h4 : ¬ (k : Int) = 9 := by assumption
        go_ret2
        refine ⟨?_, rfl⟩
        rw [← HK.out, hd.out, grp_end (by omega) (fun _ => h2) (fun h => absurd (by omega) h4) h1]
        exact iret2 rfl (by omega)
      · have h1 : IntKind.u64.wrap (s[k].toNat : Int) < 128 := by assumption
        have h2 : ¬ 0 < k := by assumption
        have h4 : ¬ (k : Int) = 9 := by assumption
        go_ret2
        refine ⟨?_, rfl⟩
        rw [← HK.out, hd.out, grp_end (by omega) (fun h => absurd h h2) (fun h => absurd (by omega) h4) h1]
        exact iret2 rfl (by omega)
    · go_wp2
      go_ret2
      refine ⟨?_, rfl⟩
      rw [← HK.out]
      have hkk : k = s.size := by omega
      rw [hkk, List.drop_of_length_le (by simp)]
      rfl

set_option maxRecDepth 100000 in
theorem groups_long (s : ByteArray) (w : World) (hs : s.size ≤ 9223372036854775807) (h10 : 10 < s.size) :
    Calls Try.prog 164 #[.string s] w fun e w' => e = .returned (grpV (grpR s.data.toList 0 0)) ∧ w = w' := by
  go_enter Try.func164, Try.ntmps164
  go_wp2
  go_loop [4, 5, 6, 10] (fun q _ _ i => GrpS s q i) (fun _ _ _ i => 10 - (intOf i).toNat)
  case atStart => exact ⟨0, 0, rfl, rfl, by omega, by omega, by omega, by omega, by exact rfl⟩
  case round =>
    obtain ⟨k, u, rfl, rfl, hk, hk2, hu0, hu1, HK⟩ := hrel
    by_cases hlt : k < 10
    · have hks : k < s.size := by omega
      have hd := hide (drop_at s k hks)
      go_wp2
      · have h1 : 128 ≤ IntKind.u64.wrap (s[k].toNat : Int) := by assumption
        go_round
        case rel => exact ⟨k + 1, gStep u s[k] k, by go_num, rfl, by omega, by omega, (bits_u64 _ _ _).1, (bits_u64 _ _ _).2, by
          have := HK.out
          rw [hd.out, grp_go (by omega) h1] at this
          exact this⟩
        case measure => simp [intOf]; omega
      · have h1 : IntKind.u64.wrap (s[k].toNat : Int) < 128 := by assumption
        have h2 : IntKind.u64.wrap (s[k].toNat : Int) = 0 := by assumption
        have h3 : 0 < k := by assumption
        go_ret2
        refine ⟨?_, rfl⟩
        rw [← HK.out, hd.out, grp_bad (.inl ⟨h3, h2⟩) h1]
        rfl
      · have h1 : IntKind.u64.wrap (s[k].toNat : Int) < 128 := by assumption
        have h2 : ¬ IntKind.u64.wrap (s[k].toNat : Int) = 0 := by assumption
        have h3 : (IntKind.u64.wrap (s[k].toNat : Int) == 0) = true ∨ 1 < IntKind.u64.wrap (s[k].toNat : Int) := by assumption
        have h4 : (k : Int) = 9 := by assumption
        have h5 : 1 < IntKind.u64.wrap (s[k].toNat : Int) := by
          rcases h3 with h3 | h3
          · exact absurd (by simpa using h3) h2
          · exact h3
        go_ret2
        refine ⟨?_, rfl⟩
        rw [← HK.out, hd.out, grp_bad (.inr ⟨by omega, h5⟩) h1]
        rfl
      · have h1 : IntKind.u64.wrap (s[k].toNat : Int) < 128 := by assumption
        have h2 : ¬ IntKind.u64.wrap (s[k].toNat : Int) = 0 := by assumption
        have h3 : (IntKind.u64.wrap (s[k].toNat : Int) == 0) = false ∧ IntKind.u64.wrap (s[k].toNat : Int) ≤ 1 := by assumption
        have h4 : (k : Int) = 9 := by assumption
        go_ret2
        refine ⟨?_, rfl⟩
        rw [← HK.out, hd.out, grp_end (by omega) (fun _ => h2) (fun _ => h3.2) h1]
        exact iret2 rfl (by omega)
      · have h1 : IntKind.u64.wrap (s[k].toNat : Int) < 128 := by assumption
        have h2 : ¬ IntKind.u64.wrap (s[k].toNat : Int) = 0 := by assumption
        have h4 : ¬ (k : Int) = 9 := by assumption
        go_ret2
        refine ⟨?_, rfl⟩
        rw [← HK.out, hd.out, grp_end (by omega) (fun _ => h2) (fun h => absurd (by omega) h4) h1]
        exact iret2 rfl (by omega)
      · have h1 : IntKind.u64.wrap (s[k].toNat : Int) < 128 := by assumption
        have h2 : ¬ 0 < k := by assumption
        have h4 : ¬ (k : Int) = 9 := by assumption
        go_ret2
        refine ⟨?_, rfl⟩
        rw [← HK.out, hd.out, grp_end (by omega) (fun h => absurd h h2) (fun h => absurd (by omega) h4) h1]
        exact iret2 rfl (by omega)
    · go_wp2
      go_ret2
      refine ⟨?_, rfl⟩
      rw [← HK.out]
      have : k = 10 := by omega
      rw [this, grp_over]
      rfl

theorem groups_any (s : ByteArray) (w : World) (hs : s.size ≤ 9223372036854775807) :
    Calls Try.prog 164 #[.string s] w fun e w' => e = .returned (grpV (grpR s.data.toList 0 0)) ∧ w = w' := by
  by_cases h : s.size ≤ 10
  · exact groups_short s w hs h
  · exact groups_long s w hs (by omega)
end Go.Proofs.Ytljmaicobafgkaa
end
