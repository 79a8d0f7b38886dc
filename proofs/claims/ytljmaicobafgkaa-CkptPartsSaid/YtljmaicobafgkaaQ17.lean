/- A join of 7 texts of this claim: Seg14, Ck1, Ck2, Ck3, Ck4, Seg20, Ck5. Conditions: none of their own. -/
import Derived.Test.YtljmaicobafgkaaQ16
import Derived.Test.YtljmaicobafgkaaQ13
section
/- Chapter 31, segment: Add over pieces; quiet contracts; the example. -/
namespace Go.Proofs.Ytljmaicobafgkaa
open Go.RowKit

def Pc.zero : Ent := ⟨0, 0, 0, 0, 0⟩
instance (x : Pc) : Decidable x.ok := by unfold Pc.ok; infer_instance
/-- A segment in memory, by its pieces. -/
def SgP (w : World) (g : Nat) (size : Int) (l : List Pc) (lv : Value) : Prop := Sg w g size (pcText l) (entsAt 0 l) lv
def addOk (size : Int) (l : List Pc) (x : Pc) : Prop := x.ok ∧ (x.body.size : Int) ≤ leftOf size (pcText l).length l.length
instance (size : Int) (l : List Pc) (x : Pc) : Decidable (addOk size l x) := by unfold addOk; infer_instance
def addE (size : Int) (l : List Pc) (x : Pc) : Ent := if addOk size l x then x.ent (pcText l).length else Pc.zero
def addC (size : Int) (l : List Pc) (x : Pc) : Int := if addOk size l x then 0 else if x.ok then 5 else 1
def addL (size : Int) (l : List Pc) (x : Pc) : List Pc := if addOk size l x then l ++ [x] else l
theorem addC_ne {size : Int} {l : List Pc} {x : Pc} (h : ¬ addOk size l x) : addC size l x ≠ 0 := by
  unfold addC
  rw [if_neg h]
  split <;> decide
theorem SegInv.add {size : Int} {l : List Pc} (h : SegInv size l) (x : Pc) : SegInv size (addL size l x) := by
  unfold addL
  split
  · rename_i hx
    exact h.snoc hx.1 hx.2
  · exact h
theorem addP (g : Nat) (size : Int) (l : List Pc) (lv : Value) (x : Pc) (w : World) (h : SgP w g size l lv) (hi : SegInv size l) (h0 : 16 ≤ size) (h1 : size ≤ 65536) :
    Calls Try.prog 56 #[.pointer (some ⟨g, 0, none⟩), .int .i64 x.kind, .int .i64 x.inode, .int .i64 x.block, .string x.body] w fun e w' => e = .returned (.tuple #[entV (addE size l x), .int .i64 (addC size l x)]) ∧
      ∃ lv', SgP w' g size (addL size l x) lv' ∧ Fr (sgF w g lv) w w' ∧ (lv'.ownBlock = lv.ownBlock ∨ ∃ k, lv'.ownBlock = some k ∧ w.heap.size ≤ k) := by
  have hb := hi.bounds h1
  have hel := entsAt_len 0 l
  by_cases hx : addOk size l x
  · have := add_ok g size (pcText l) (entsAt 0 l) lv x.kind x.inode x.block x.body w h (by omega) h1 (by omega) (by rw [hel]; omega) hx.1 (by rw [hel]; exact hx.2)
    refine this.mono ?_
    rintro e w' ⟨rfl, lv', hS, hf, hv⟩
    unfold addE addC addL SgP
    rw [if_pos hx, if_pos hx, if_pos hx, pcText_snoc, entsAt_snoc, Nat.zero_add]
    exact ⟨rfl, lv', hS, hf, hv⟩
  · by_cases hm : x.ok
    · have := add_full g size (pcText l) (entsAt 0 l) lv x.kind x.inode x.block x.body w h (by omega) h1 (by omega) (by rw [hel]; omega) hm (by
        rw [hel]
        by_cases hc : leftOf size (pcText l).length l.length < (x.body.size : Int)
        · exact hc
        · exact absurd ⟨hm, by omega⟩ hx)
      refine this.mono ?_
      rintro e w' ⟨rfl, hbl⟩
      unfold addE addC addL
      rw [if_neg hx, if_neg hx, if_neg hx, if_pos hm]
      exact ⟨rfl, lv, Sg.below h hbl, Fr.of_below hbl, .inl rfl⟩
    · have := add_arg g size (pcText l) (entsAt 0 l) lv x.kind x.inode x.block x.body w h hm
      refine this.mono ?_
      rintro e w' ⟨rfl, hbl⟩
      unfold addE addC addL
      rw [if_neg hx, if_neg hx, if_neg hx, if_neg hm]
      exact ⟨rfl, lv, Sg.below h hbl, Fr.of_below hbl, .inl rfl⟩
theorem sgF_low {w w' : World} {g : Nat} {lv : Value} {B : Nat} {l : List Ent} (h : Fr (sgF w g lv) w w') (hO : OwE w g lv l) (hB : B ≤ g) (hg : g ≤ w.heap.size) : Below B w w' :=
  h.below B (by omega) (fun k hk hf => by
    rcases hf with rfl | hf | hf
    · omega
    · have := (row_typed hO hf).1
      omega
    · omega)
theorem SgP.low {w w' : World} {g : Nat} {size : Int} {l : List Pc} {lv : Value} {B : Nat} (hS : SgP w g size l lv) (h : Fr (sgF w g lv) w w') (hB : B ≤ g) : Below B w w' := by
  have hg := Sg.lt hS
  obtain ⟨bv, _, _, hO⟩ := hS
  exact sgF_low h hO hB (by omega)
theorem sealP (g : Nat) (size : Int) (l : List Pc) (lv : Value) (w : World) (h : SgP w g size l lv) (hi : SegInv size l) (h1 : size ≤ 65536) (hl : l.length ≤ 2000) :
    Calls Try.prog 60 #[.pointer (some ⟨g, 0, none⟩)] w fun e w' => e = .returned (.string (segS l)) ∧ Below w.heap.size w w' :=
  segSeal_ok g size (pcText l) (entsAt 0 l) lv w h (by rw [entsAt_len]; exact hl) (hi.ents h1) (by have := (hi.bounds h1).1; omega)
set_option maxRecDepth 100000 in
theorem over_same (n : Int) (w : World) (h0 : 0 ≤ n) (h1 : n ≤ 100000) : Calls Try.prog 124 #[.int .i64 n] w fun e w' => e = .returned (.int .i64 (9 + 28 * n)) ∧ w' = w := by
  go_enter Try.func124, Try.ntmps124
  go_wp2
  go_ret
  exact ⟨rfl, rfl⟩
theorem len_same (g : Nat) (size : Int) (t : List UInt8) (l : List Ent) (lv : Value) (w : World) (h : Sg w g size t l lv) :
    Calls Try.prog 59 #[.pointer (some ⟨g, 0, none⟩)] w fun e w' => e = .returned (.int .i64 t.length) ∧ w' = w := by
  obtain ⟨bv, hh, hb, _⟩ := h
  obtain ⟨A, c, rfl⟩ := row_slice hb
  have z := obj_cell hh 1
  simp only [segC, List.getElem?_toArray, List.getElem?_cons_zero, List.getElem?_cons_succ] at z
  go_enter Try.func59, Try.ntmps59
  go_wp2
  go_ret
  exact ⟨rfl, rfl⟩
set_option maxHeartbeats 1000000 in
set_option maxRecDepth 100000 in
theorem left_quiet (g : Nat) (size : Int) (t : List UInt8) (l : List Ent) (lv : Value) (w : World) (h : Sg w g size t l lv) (h0 : 0 ≤ size) (h1 : size ≤ 65536) (ht : t.length ≤ 1048576) (hn : l.length ≤ 90000) :
    Calls Try.prog 128 #[.pointer (some ⟨g, 0, none⟩)] w fun e w' => e = .returned (.int .i64 (size - t.length - (9 + 28 * (l.length + 1)))) ∧ ∃ m, w' = w.drewN m := by
  obtain ⟨bv, hh, hb, he⟩ := h
  obtain ⟨A, c, rfl⟩ := row_slice hb
  obtain ⟨A', c', rfl⟩ := row_slice he
  have z0 := obj_cell hh 0
  have z1 := obj_cell hh 1
  have z2 := obj_cell hh 2
  simp only [segC, List.getElem?_toArray, List.getElem?_cons_zero, List.getElem?_cons_succ] at z0 z1 z2
  generalize t.length = tl at *
  generalize l.length = ll at *
  clear hh hb he
  go_enter Try.func128, Try.ntmps128
  go_wp2_with fail
  go_quiet (first | (go_at_call 124; refine Calls.quiet_of_same (over_same _ _ (by omega) (by omega))))
  go_wp2
  go_ret
  exact ⟨rfl, _, rfl⟩
end Go.Proofs.Ytljmaicobafgkaa
end
section
/- Chapter 41, ckpt: may, begin, Segment. -/
namespace Go.Proofs.Ytljmaicobafgkaa
open Go.RowKit

def mayQ (n : Int) : Prop := 0 ≤ n ∧ n < 2147483648
instance (n : Int) : Decidable (mayQ n) := by unfold mayQ; infer_instance
theorem mayQ_any (n : Int) (w : World) : Calls Try.prog 148 #[.int .i64 n] w fun e w' => e = .returned (.bool (decide (mayQ n))) ∧ w' = w := by
  by_cases h0 : 0 ≤ n
  · by_cases h1 : n < 2147483648
    · rw [decide_eq_true (show mayQ n from ⟨h0, h1⟩)]
      go_enter Try.func148, Try.ntmps148
      go_wp2
      go_ret
      exact ⟨rfl, rfl⟩
    · rw [decide_eq_false (show ¬ mayQ n from fun h => h1 h.2)]
      go_enter Try.func148, Try.ntmps148
      go_wp2
      go_ret
      exact ⟨rfl, rfl⟩
  · rw [decide_eq_false (show ¬ mayQ n from fun h => h0 h.1)]
    go_enter Try.func148, Try.ntmps148
    go_wp2
    go_ret
    exact ⟨rfl, rfl⟩
/-- The first piece of a segment: its seq. -/
def seqPc (n : Int) : Pc := ⟨1, 0, n, ⟨#[]⟩⟩
def begL (size n : Int) : List Pc := addL size [] (seqPc n)
theorem seq_ok {n : Int} (hn : mayQ n) {size : Int} (hs : 37 ≤ size) : addOk size [] (seqPc n) := by
  refine ⟨show mayE 1 0 n from ⟨by decide, by decide, by decide, by decide, hn.1, hn.2⟩, ?_⟩
  show ((0 : Nat) : Int) ≤ leftOf size 0 0
  unfold leftOf over
  simp
  omega
theorem begL_eq {n : Int} (hn : mayQ n) {size : Int} (hs : 37 ≤ size) : begL size n = [seqPc n] := by
  unfold begL addL
  rw [if_pos (seq_ok hn hs)]
  rfl
def BegPost (n most : Int) (w : World) (e : Ending) (w' : World) : Prop :=
  ∃ lv, e = .returned (.tuple #[.pointer (some ⟨w.heap.size, 0, none⟩), .bool (addC (szOf most) [] (seqPc n) == 0)]) ∧ SgP w' w.heap.size (szOf most) (begL (szOf most) n) lv ∧ Below w.heap.size w w'
set_option maxHeartbeats 1000000 in
set_option maxRecDepth 100000 in
theorem begin_any (n most : Int) (w : World) : Calls Try.prog 149 #[.int .i64 n, .int .i64 most] w (BegPost n most w) := by
  have hsz0 : 16 ≤ szOf most := by unfold szOf; omega
  have hsz1 : szOf most ≤ 65536 := by unfold szOf; omega
  go_enter Try.func149, Try.ntmps149
  go_wp2_with fail
  refine (newSeg_any most _).mono ?_
  rintro e w1 ⟨rfl, hs1, hb1⟩
  have HS1 : Hid (SgP w1 w.heap.size (szOf most) [] (.slice none 0 0)) := hide hs1
  have HB1 := hide hb1
  clear hs1 hb1
  go_wp2_with fail
  refine (addP w.heap.size (szOf most) [] (.slice none 0 0) (seqPc n) _ HS1.out (SegInv.nil _) hsz0 hsz1).mono ?_
  rintro e w2 ⟨rfl, lv2, hs2, hf2, _⟩
  have HB2 := hide (HB1.out.trans (HS1.out.low hf2 (Nat.le_refl _)))
  have HS2 := hide hs2
  clear hs2 hf2
  unfold entV
  generalize hcc : addC (szOf most) [] (seqPc n) = cc
  go_wp2
  go_ret2
  exact ⟨lv2, by rw [hcc]; rfl, Sg.below HS2.out ((Below.refl _ _).alloc (Nat.le_refl _) _), HB2.out.alloc HB2.out.size _⟩
/-- A part of a state, as a piece. -/
def partPc (part many : Int) (body : ByteArray) : Pc := ⟨2, many, part, body⟩
def segArgs (seq part many : Int) : Prop := mayQ seq ∧ 1 ≤ many ∧ many ≤ 255 ∧ 0 ≤ part ∧ part < many
end Go.Proofs.Ytljmaicobafgkaa
end
section
/- Chapter 41, ckpt: Segment, Delta. -/
namespace Go.Proofs.Ytljmaicobafgkaa
open Go.RowKit

theorem szOf_max : szOf 65536 = 65536 := by decide
set_option maxHeartbeats 4000000 in
set_option maxRecDepth 100000 in
theorem seg41_bad (seq part many : Int) (body : ByteArray) (w : World) (h : ¬ segArgs seq part many) :
    Calls Try.prog 89 #[.int .i64 seq, .int .i64 part, .int .i64 many, .string body] w fun e w' => e = .returned (.tuple #[.string ⟨#[]⟩, .int .i64 1]) ∧ Below w.heap.size w w' := by
  by_cases h0 : mayQ seq
  · by_cases h1 : many < 1
    · go_enter Try.func89, Try.ntmps89
      go_wp2_with fail
      refine (mayQ_any _ _).mono ?_
      rintro e w1 ⟨rfl, rfl⟩
      rw [decide_eq_true h0]
      go_wp2
      go_ret2
      exact ⟨rfl, Below.refl _ _⟩
    · by_cases h2 : 255 < many
      · go_enter Try.func89, Try.ntmps89
        go_wp2_with fail
        refine (mayQ_any _ _).mono ?_
        rintro e w1 ⟨rfl, rfl⟩
        rw [decide_eq_true h0]
        go_wp2
        go_ret2
        exact ⟨rfl, Below.refl _ _⟩
      · by_cases h3 : part < 0
        · go_enter Try.func89, Try.ntmps89
          go_wp2_with fail
          refine (mayQ_any _ _).mono ?_
          rintro e w1 ⟨rfl, rfl⟩
          rw [decide_eq_true h0]
          go_wp2
          go_ret2
          exact ⟨rfl, Below.refl _ _⟩
        · have h4 : many ≤ part := by
            by_cases hc : many ≤ part
            · exact hc
            · exact absurd ⟨h0, by omega, by omega, by omega, by omega⟩ h
          go_enter Try.func89, Try.ntmps89
          go_wp2_with fail
          refine (mayQ_any _ _).mono ?_
          rintro e w1 ⟨rfl, rfl⟩
          rw [decide_eq_true h0]
          go_wp2
          go_ret2
          exact ⟨rfl, Below.refl _ _⟩
  · go_enter Try.func89, Try.ntmps89
    go_wp2_with fail
    refine (mayQ_any _ _).mono ?_
    rintro e w1 ⟨rfl, rfl⟩
    rw [decide_eq_false h0]
    go_wp2
    go_ret2
    exact ⟨rfl, Below.refl _ _⟩
def segTwo (seq part many : Int) (body : ByteArray) : List Pc := [seqPc seq, partPc part many body]
def segFits (body : ByteArray) : Prop := (body.size : Int) ≤ 65536 - 65
theorem segFits_ok {seq part many : Int} {body : ByteArray} (h : segArgs seq part many) : addOk 65536 [seqPc seq] (partPc part many body) ↔ segFits body := by
  obtain ⟨⟨q0, q1⟩, a, b, c, d⟩ := h
  have hl : leftOf 65536 (pcText [seqPc seq]).length [seqPc seq].length = 65536 - 65 := by
    show (65536 : Int) - ((0 : Nat) : Int) - over (((1 : Nat) : Int) + 1) = 65536 - 65
    decide
  constructor
  · rintro ⟨_, h⟩
    rw [hl] at h
    exact h
  · intro h
    exact ⟨show mayE 2 many part from ⟨by decide, by decide, by omega, by omega, by omega, by omega⟩, by rw [hl]; exact h⟩
theorem seq_inv {size seq : Int} (h : mayQ seq) (hs : 37 ≤ size) : SegInv size [seqPc seq] := by
  have := (SegInv.nil size).add (seqPc seq)
  rw [show addL size [] (seqPc seq) = [seqPc seq] from begL_eq h hs] at this
  exact this
set_option maxHeartbeats 4000000 in
set_option maxRecDepth 100000 in
theorem seg41_good (seq part many : Int) (body : ByteArray) (w : World) (h : segArgs seq part many) :
    Calls Try.prog 89 #[.int .i64 seq, .int .i64 part, .int .i64 many, .string body] w fun e w' => (segFits body ∧ e = .returned (.tuple #[.string (segS (segTwo seq part many body)), .int .i64 0]) ∨ ¬ segFits body ∧ e = .returned (.tuple #[.string ⟨#[]⟩, .int .i64 2])) ∧ Below w.heap.size w w' := by
  have H := hide h
  obtain ⟨h0, h1, h2, h3, h4⟩ := h
  have hI := seq_inv h0 (size := 65536) (by decide)
  go_enter Try.func89, Try.ntmps89
  go_wp2_with fail
  refine (mayQ_any _ _).mono ?_
  rintro e w1 ⟨rfl, rfl⟩
  rw [decide_eq_true h0]
  go_wp2_with fail
  refine (begin_any seq 65536 _).mono ?_
  rintro e w1 ⟨lv, rfl, hs1, hb1⟩
  rw [show (addC (szOf 65536) [] (seqPc seq) == 0) = true from by rw [show addC (szOf 65536) [] (seqPc seq) = 0 from if_pos (seq_ok h0 (by decide))]; rfl]
  rw [szOf_max, begL_eq h0 (by decide)] at hs1
  have HS1 := hide hs1
  have HB1 := hide hb1
  clear hs1 hb1
  go_wp2_with fail
  refine (addP _ 65536 [seqPc seq] lv (partPc part many body) _ HS1.out hI (by decide) (by decide)).mono ?_
  rintro e w2 ⟨rfl, lv2, hs2, hf2, _⟩
  have HB2 := hide (HB1.out.trans (HS1.out.low hf2 (Nat.le_refl _)))
  have hI2 := hI.add (partPc part many body)
  unfold entV
  by_cases hok : addOk 65536 [seqPc seq] (partPc part many body)
  · rw [show addL 65536 [seqPc seq] (partPc part many body) = segTwo seq part many body from if_pos hok] at hs2 hI2
    rw [show addC 65536 [seqPc seq] (partPc part many body) = 0 from if_pos hok]
    have HS2 := hide hs2
    clear hs2 hf2
    go_wp2_with fail
    refine (sealP _ 65536 (segTwo seq part many body) lv2 _ (Sg.below HS2.out ((Below.refl _ _).alloc (Nat.le_refl _) _)) hI2 (by decide) (by show 2 ≤ 2000; decide)).mono ?_
    rintro e w3 ⟨rfl, hb3⟩
    go_wp2
    go_ret2
    exact ⟨.inl ⟨(segFits_ok H.out).1 hok, rfl⟩, below_step HB2.out HB2.out.size hb3⟩
  · have hcc := addC_ne hok
    generalize addC 65536 [seqPc seq] (partPc part many body) = cc at hcc ⊢
    have hc1 : (cc == 0) = false := by simp [hcc]
    clear hs2 hf2
    go_wp2
    go_ret2
    exact ⟨.inr ⟨fun h => hok ((segFits_ok H.out).2 h), rfl⟩, HB2.out.alloc HB2.out.size _⟩
/-- A slice that reads as strings. -/
def StrArg (w : World) (v : Value) (l : List ByteArray) : Prop :=
  (v = .slice none 0 0 ∧ l = []) ∨ ∃ (a : Addr) (cap : Nat), v = .slice (some a) l.length cap ∧ l.length ≤ cap ∧ cap ≤ maxLen ∧ ∀ i (hi : i < l.length), w.cell? (a.add i) = some (.string l[i])
theorem StrArg.below {w w' : World} {v : Value} {l : List ByteArray} (h : StrArg w v l) (hb : Below w.heap.size w w') : StrArg w' v l := by
  rcases h with h | ⟨a, cap, rfl, h1, h2, h3⟩
  · exact .inl h
  · exact .inr ⟨a, cap, rfl, h1, h2, fun i hi => (hb.cell (World.block_lt_of_cell? _ _ (h3 i hi))).trans (h3 i hi)⟩
theorem StrArg.slice {w : World} {v : Value} {l : List ByteArray} (h : StrArg w v l) : ∃ A c, v = .slice A l.length c := by
  rcases h with ⟨rfl, rfl⟩ | ⟨a, cap, rfl, _⟩
  · exact ⟨none, 0, rfl⟩
  · exact ⟨some a, cap, rfl⟩
theorem StrArg.len {w : World} {v : Value} {l : List ByteArray} (h : StrArg w v l) : l.length ≤ maxLen := by
  rcases h with ⟨rfl, rfl⟩ | ⟨a, cap, rfl, h1, h2, h3⟩
  · simp
  · omega
theorem StrArg.cell {w : World} {v : Value} {l : List ByteArray} (h : StrArg w v l) {k : Nat} (hk : k < l.length) : ∃ a cap, v = .slice (some a) l.length cap ∧ l.length ≤ cap ∧ cap ≤ maxLen ∧ w.cell? (a.add k) = some (.string l[k]) := by
  rcases h with ⟨rfl, rfl⟩ | ⟨a, cap, rfl, h1, h2, h3⟩
  · simp at hk
  · exact ⟨a, cap, rfl, h1, h2, h3 k hk⟩
def opPc (i : Nat) (b : ByteArray) : Pc := ⟨3, 0, i, b⟩
def opsOf : Nat → List ByteArray → List Pc
  | _, [] => []
  | i, b :: l => opPc i b :: opsOf (i + 1) l
theorem opsOf_len : ∀ (i : Nat) (l : List ByteArray), (opsOf i l).length = l.length
  | _, [] => rfl
  | i, b :: l => by simp [opsOf, opsOf_len (i + 1) l]
theorem opsOf_snoc : ∀ (l : List ByteArray) (i : Nat) (b : ByteArray), opsOf i (l ++ [b]) = opsOf i l ++ [opPc (i + l.length) b]
  | [], i, b => by simp [opsOf]
  | c :: l, i, b => by
    rw [List.cons_append, opsOf, opsOf_snoc l (i + 1) b, opsOf, List.length_cons, show i + 1 + l.length = i + (l.length + 1) from by omega]
    rfl
def dlL (seq : Int) (l : List ByteArray) : List Pc := seqPc seq :: opsOf 0 l
theorem dlL_snoc (seq : Int) (l : List ByteArray) (b : ByteArray) : dlL seq (l ++ [b]) = dlL seq l ++ [opPc l.length b] := by
  unfold dlL
  rw [opsOf_snoc, Nat.zero_add]
  rfl
/-- How many of the ops go in. -/
def DlN (size seq : Int) (l : List ByteArray) (n : Nat) : Prop :=
  n ≤ l.length ∧ n ≤ 1000 ∧ (∀ k (hk : k < l.length), k < n → addOk size (dlL seq (l.take k)) (opPc k l[k])) ∧ (n = l.length ∨ n = 1000 ∨ ∃ hn : n < l.length, ¬ addOk size (dlL seq (l.take n)) (opPc n l[n]))
end Go.Proofs.Ytljmaicobafgkaa
end
section
/- Chapter 41, ckpt: Delta. -/
namespace Go.Proofs.Ytljmaicobafgkaa
open Go.RowKit

def DlS (w0 : World) (g : Nat) (size seq : Int) (l : List ByteArray) (w : World) (i : Value) : Prop :=
  ∃ (k : Nat) (lv : Value), i = .int .i64 k ∧ k ≤ l.length ∧ k ≤ 1000 ∧ SgP w g size (dlL seq (l.take k)) lv ∧ SegInv size (dlL seq (l.take k)) ∧ (∀ j (hj : j < l.length), j < k → addOk size (dlL seq (l.take j)) (opPc j l[j])) ∧ Below w0.heap.size w0 w ∧ w0.heap.size ≤ g
/-- What Delta gives. -/
def DlOut (size seq : Int) (l : List ByteArray) (e : Ending) : Prop :=
  ∃ n, DlN size seq l n ∧ (n = 0 ∧ e = .returned (.tuple #[.string ⟨#[]⟩, .int .i64 0, .int .i64 2]) ∨ 1 ≤ n ∧ SegInv size (dlL seq (l.take n)) ∧ e = .returned (.tuple #[.string (segS (dlL seq (l.take n))), .int .i64 n, .int .i64 0]))
theorem dlL_len (seq : Int) (l : List ByteArray) : (dlL seq l).length = l.length + 1 := by
  unfold dlL
  rw [List.length_cons, opsOf_len]
set_option maxHeartbeats 4000000 in
set_option maxRecDepth 100000 in
theorem delta_bad (seq most : Int) (v : Value) (w : World) (h : ¬ mayQ seq) :
    Calls Try.prog 90 #[.int .i64 seq, v, .int .i64 most] w fun e w' => e = .returned (.tuple #[.string ⟨#[]⟩, .int .i64 0, .int .i64 1]) ∧ Below w.heap.size w w' := by
  go_enter Try.func90, Try.ntmps90
  go_wp2_with fail
  refine (mayQ_any _ _).mono ?_
  rintro e w1 ⟨rfl, rfl⟩
  rw [decide_eq_false h]
  go_wp2
  refine bodyPost_ret (results_tmp3 rfl _ _ _) rfl ⟨rfl, Below.refl _ _⟩
set_option maxHeartbeats 8000000 in
set_option maxRecDepth 1000000 in
theorem delta_any (seq most : Int) (v : Value) (l : List ByteArray) (w : World) (hq : mayQ seq) (h37 : 37 ≤ szOf most) (h : StrArg w v l) :
    Calls Try.prog 90 #[.int .i64 seq, v, .int .i64 most] w fun e w' => DlOut (szOf most) seq l e ∧ Below w.heap.size w w' := by
  have hlen : l.length ≤ 9223372036854775807 := Nat.le_trans h.len (by decide)
  have hsz0 : 16 ≤ szOf most := by omega
  have hsz1 : szOf most ≤ 65536 := by unfold szOf; omega
  obtain ⟨A, c, hv⟩ := h.slice
  have H := hide h
  subst hv
  clear h
  have hI0 := seq_inv hq h37
  have hc0 : addC (szOf most) [] (seqPc seq) = 0 := if_pos (seq_ok hq h37)
  go_enter Try.func90, Try.ntmps90
  go_wp2_with fail
  refine (mayQ_any _ _).mono ?_
  rintro e w1 ⟨rfl, rfl⟩
  rw [decide_eq_true hq]
  go_wp2_with fail
  refine (begin_any seq most _).mono ?_
  rintro e w2 ⟨lv, rfl, hs1, hb1⟩
  rw [begL_eq hq h37] at hs1
  rw [show (addC (szOf most) [] (seqPc seq) == 0) = true from by rw [hc0]; rfl]
  have HST : Hid (DlS w1 w1.heap.size (szOf most) seq l w2 (.int .i64 0)) := hide ⟨0, lv, rfl, Nat.zero_le _, Nat.zero_le _, hs1, hI0, (fun j _ hj => absurd hj (Nat.not_lt_zero _)), hb1, Nat.le_refl _⟩
  clear hs1 hb1
  obtain ⟨M, hM⟩ : ∃ M, (if 1000 < (l.length : Int) then (1000 : Int) else (l.length : Int)) = M := ⟨_, rfl⟩
  have hM2 : M = min (l.length : Int) 1000 := by rw [← hM]; split <;> omega
  go_wp2_with fail
  go_loopw [11] (fun i wr => DlS w1 w1.heap.size (szOf most) seq l wr i) (fun i _ => l.length - (intOf i).toNat)
  case atStart => exact HST.out
  case round =>
    obtain ⟨k, lv, rfl, hk, hk1, hS, hI, hacc, hB, hg⟩ := hrel
    have HS := hide hS
    have HI := hide hI
    have HA := hide hacc
    have HB := hide hB
    clear hS hI hacc hB
    have hdl := dlL_len seq (l.take k)
    rw [List.length_take] at hdl
    have HL : Hid ((dlL seq (l.take k)).length ≤ 2000) := hide (by omega)
    clear hdl
    by_cases hkM : (k : Int) < M
    · have hkl : k < l.length := by omega
      have hk2 : k < 1000 := by omega
      have HK := hide (And.intro hkl hk2)
      obtain ⟨a, cap, hv, hca, _, c0⟩ := (H.out.below HB.out).cell hkl
      cases hv
      clear hM2
      go_wp2_with fail

      refine (addP w1.heap.size (szOf most) (dlL seq (l.take k)) lv (opPc k l[k]) _ HS.out HI.out hsz0 hsz1).mono ?_
      rintro e w3 ⟨rfl, lv3, hs3, hf3, _⟩
      have HB3 := hide (HB.out.trans (HS.out.low hf3 hg))
      unfold entV
      have hle : (l.take k).length = k := by rw [List.length_take]; omega
      by_cases hok : addOk (szOf most) (dlL seq (l.take k)) (opPc k l[k])
      · rw [show addC (szOf most) (dlL seq (l.take k)) (opPc k l[k]) = 0 from if_pos hok]
        have hI2 := HI.out.add (opPc k l[k])
        have eL : addL (szOf most) (dlL seq (l.take k)) (opPc k l[k]) = dlL seq (l.take (k + 1)) := by
          unfold addL
          rw [if_pos hok, List.take_add_one, List.getElem?_eq_getElem hkl, show (some l[k]).toList = [l[k]] from rfl, dlL_snoc, hle]
        rw [eL] at hs3 hI2
        have hst : DlS w1 w1.heap.size (szOf most) seq l (w3.alloc (.cells #[.int .i64 (addE (szOf most) (dlL seq (l.take k)) (opPc k l[k])).kind, .int .i64 (addE (szOf most) (dlL seq (l.take k)) (opPc k l[k])).inode, .int .i64 (addE (szOf most) (dlL seq (l.take k)) (opPc k l[k])).block, .int .i64 (addE (szOf most) (dlL seq (l.take k)) (opPc k l[k])).pos, .int .i64 (addE (szOf most) (dlL seq (l.take k)) (opPc k l[k])).len] 89)) (.int .i64 ((k + 1 : Nat) : Int)) :=
          ⟨k + 1, lv3, rfl, hkl, hk2, Sg.below hs3 ((Below.refl _ _).alloc (Nat.le_refl _) _), hI2, (fun j hj hjk => by
            rcases Nat.lt_or_ge j k with h1 | h1
            · exact HA.out j hj h1
            · obtain rfl : j = k := by omega
              exact hok), HB3.out.alloc HB3.out.size _, hg⟩
        have HST2 := hide hst
        clear hst hs3 hf3 hI2 eL
        go_wp2
        go_roundw
        case rel => exact HST2.out
        case measure => simp [intOf]; omega
      · have hcc := addC_ne hok
        have hdn : DlN (szOf most) seq l k := ⟨hk, hk1, HA.out, .inr (.inr ⟨hkl, hok⟩)⟩
        rw [show addL (szOf most) (dlL seq (l.take k)) (opPc k l[k]) = dlL seq (l.take k) from if_neg hok] at hs3
        have HS3 := hide hs3
        have HD := hide hdn
        generalize addC (szOf most) (dlL seq (l.take k)) (opPc k l[k]) = cc at hcc ⊢
        have hc1 : (cc == 0) = false := by simp [hcc]
        clear hs3 hf3 hdn
        rcases Nat.eq_zero_or_pos k with h0 | h0
        · subst h0
          go_wp2
          refine bodyPost_ret (results_tmp3 rfl _ _ _) rfl ⟨⟨0, HD.out, .inl ⟨rfl, rfl⟩⟩, HB3.out.alloc HB3.out.size _⟩
        · as_aux_lemma =>
            have hk0 : ¬ (k : Int) = 0 := by omega
            go_wp2_with fail
            refine (sealP w1.heap.size (szOf most) (dlL seq (l.take k)) lv3 _ (Sg.below HS3.out ((Below.refl _ _).alloc (Nat.le_refl _) _)) HI.out hsz1 HL.out).mono ?_
            rintro e w4 ⟨rfl, hb4⟩
            have HB4 := hide (below_step HB3.out HB3.out.size hb4)
            clear hb4 HS3
            go_wp2
            refine bodyPost_ret (results_tmp3 rfl _ _ _) rfl ⟨⟨k, HD.out, .inr ⟨h0, HI.out, rfl⟩⟩, HB4.out⟩
    · have hdn : DlN (szOf most) seq l k := ⟨hk, hk1, HA.out, by omega⟩
      have HD := hide hdn
      clear hdn hM2
      rcases Nat.eq_zero_or_pos k with h0 | h0
      · subst h0
        go_wp2
        refine bodyPost_ret (results_tmp3 rfl _ _ _) rfl ⟨⟨0, HD.out, .inl ⟨rfl, rfl⟩⟩, HB.out⟩
      · have hk0 : ¬ (k : Int) = 0 := by omega
        go_wp2_with fail
        refine (sealP w1.heap.size (szOf most) (dlL seq (l.take k)) lv _ HS.out HI.out hsz1 HL.out).mono ?_
        rintro e w4 ⟨rfl, hb4⟩
        go_wp2
        refine bodyPost_ret (results_tmp3 rfl _ _ _) rfl ⟨⟨k, HD.out, .inr ⟨h0, HI.out, rfl⟩⟩, HB.out.trans (hb4.mono HB.out.size)⟩
end Go.Proofs.Ytljmaicobafgkaa
end
section
/- Chapter 41, ckpt: again, over what was sealed. -/
namespace Go.Proofs.Ytljmaicobafgkaa
open Go.RowKit

/-- Ops that went into a small segment go into a great one, all of them. -/
theorem dlN_all {size size' seq : Int} {l : List ByteArray} {n : Nat} (hs : size ≤ size') (hl : l.length ≤ 1000) (hacc : ∀ k (hk : k < l.length), addOk size (dlL seq (l.take k)) (opPc k l[k])) (h : DlN size' seq l n) : n = l.length := by
  obtain ⟨h1, h2, _, h4⟩ := h
  rcases h4 with h4 | h4 | ⟨hn, h4⟩
  · exact h4
  · omega
  · exfalso
    refine h4 ⟨(hacc n hn).1, ?_⟩
    have := (hacc n hn).2
    unfold leftOf at this ⊢
    omega
/-- again, of ops. -/
theorem again_ops (seq : Int) (v : Value) (l : List ByteArray) (size : Int) (w : World) (hq : mayQ seq) (h : StrArg w v l) (hs : size ≤ 65536) (hl0 : 1 ≤ l.length) (hl : l.length ≤ 1000) (hacc : ∀ k (hk : k < l.length), addOk size (dlL seq (l.take k)) (opPc k l[k])) :
    Calls Try.prog 143 #[.int .i64 seq, .int .i64 (-1), .int .i64 0, v] w fun e w' => e = .returned (.string (segS (dlL seq l))) ∧ Below w.heap.size w w' := by
  obtain ⟨A, c, hv⟩ := h.slice
  have H := hide h
  subst hv
  clear h
  have HA := hide hacc
  clear hacc
  go_enter Try.func143, Try.ntmps143
  go_wp2_with fail
  refine (delta_any seq 65536 _ l _ hq (by decide) H.out).mono ?_
  rintro e w1 ⟨⟨n, hn, hor⟩, hb1⟩
  rw [szOf_max] at hn
  have hnl := dlN_all hs hl HA.out hn
  rcases hor with ⟨h0, _⟩ | ⟨_, _, rfl⟩
  · omega
  · subst hnl
    rw [List.take_length]
    go_wp2
    go_ret
    exact ⟨rfl, hb1⟩
/-- again, of a part. -/
theorem again_part (seq part many : Int) (v : Value) (body : ByteArray) (w : World) (hsa : segArgs seq part many) (hfit : segFits body) (h : StrArg w v [body]) :
    Calls Try.prog 143 #[.int .i64 seq, .int .i64 part, .int .i64 many, v] w fun e w' => e = .returned (.string (segS (segTwo seq part many body))) ∧ Below w.heap.size w w' := by
  obtain ⟨a, cap, hv, hc1, hc2, c0⟩ := h.cell (k := 0) (by simp)
  rw [show a.add 0 = a from by simp [Addr.add]] at c0
  have hp : ¬ part = -1 := by
    have := hsa.2.2.2.1
    omega
  have hp2 : (part == -1) = false := by simp [hp]
  subst hv
  have HS := hide hsa
  have HF := hide hfit
  clear hsa hfit h
  simp only [List.length_singleton, List.getElem_cons_zero] at hc1 c0 ⊢
  go_enter Try.func143, Try.ntmps143
  go_wp2_with fail
  refine (seg41_good seq part many body _ HS.out).mono ?_
  rintro e w1 ⟨hor, hb1⟩
  rcases hor with ⟨_, rfl⟩ | ⟨hno, _⟩
  · go_wp2
    go_ret
    exact ⟨rfl, hb1⟩
  · exact absurd HF.out hno
end Go.Proofs.Ytljmaicobafgkaa
end
section
/- Chapter 31, segment: where each piece stands in a segment, plain. -/
namespace Go.Proofs.Ytljmaicobafgkaa
open Go.RowKit

theorem entsAt_get : ∀ (l : List Pc) (p i : Nat) (hi : i < l.length) (hi2 : i < (entsAt p l).length), (entsAt p l)[i] = l[i].ent (p + (pcText (l.take i)).length)
  | [], p, i, hi, _ => by simp at hi
  | x :: l, p, 0, _, _ => by simp [entsAt, pcText]
  | x :: l, p, i + 1, hi, hi2 => by
    simp only [List.length_cons] at hi
    have := entsAt_get l (p + x.body.size) i (by omega) (by rw [entsAt_len]; omega)
    simp only [entsAt, List.getElem_cons_succ, this, List.take_succ_cons, pcText_cons, List.length_append, ← size_list, Nat.add_assoc]
theorem segB_split (l : List Pc) (i : Nat) (hi : i < l.length) : ∃ r, segB l = pcText (l.take i) ++ (l[i].body.data.toList ++ r) := by
  have h : l = l.take i ++ l[i] :: l.drop (i + 1) := by
    conv => lhs; rw [← List.take_append_drop i l, List.drop_eq_getElem_cons hi]
  refine ⟨pcText (l.drop (i + 1)) ++ (idxB (entsAt 0 l) ++ le4 ((idxB (entsAt 0 l)).length : Int)), ?_⟩
  have h2 : pcText l = pcText (l.take i) ++ (l[i].body.data.toList ++ pcText (l.drop (i + 1))) := by
    have h3 := congrArg pcText h
    rw [show pcText (l.take i ++ l[i] :: l.drop (i + 1)) = pcText (l.take i) ++ (l[i].body.data.toList ++ pcText (l.drop (i + 1))) from by simp only [pcText, List.flatMap_append, List.flatMap_cons]] at h3
    exact h3
  unfold segB
  rw [h2]
  simp only [List.append_assoc]
theorem seg_body (l : List Pc) (i : Nat) (hi : i < l.length) : (segS l).extract (pcText (l.take i)).length ((pcText (l.take i)).length + l[i].body.size) = l[i].body ∧ (pcText (l.take i)).length + l[i].body.size ≤ (segS l).size := by
  obtain ⟨r, hr⟩ := segB_split l i hi
  have hl := segS_list l
  rw [hr, List.append_assoc, List.append_assoc] at hl
  refine ⟨?_, ?_⟩
  · rw [← str_eta (segS l), hl, size_list, ext_mid, str_eta]
  · rw [size_list (segS l), hl, List.length_append, List.length_append, ← size_list]
    omega
end Go.Proofs.Ytljmaicobafgkaa
end
section
/- Chapter 41, ckpt: Open of what was sealed. -/
namespace Go.Proofs.Ytljmaicobafgkaa
open Go.RowKit

theorem results_tmp5 {fn : Func} {a b c d e : Tmp} (h : fn.results = #[.tmp a, .tmp b, .tmp c, .tmp d, .tmp e]) (tmps : Array Value) (P : Program) (w : World) :
    (results fn tmps).run P w = .ok (.tuple #[tmps.getD a undef, tmps.getD b undef, tmps.getD c undef, tmps.getD d undef, tmps.getD e undef]) w := by
  simp [results, h]
/-- A row of strings of the call's own. -/
def OwS (w : World) (B : Nat) (v : Value) (l : List ByteArray) : Prop := w.ownsRow B 9 1 v l.length (l.map .string)
theorem OwS.arg {w : World} {B : Nat} {v : Value} {l : List ByteArray} (h : OwS w B v l) : StrArg w v l := by
  rcases h.2 with ⟨rfl, h0⟩ | ⟨g, cap, cur, rfl, hb, hh, hn, hm, hc, ht⟩
  · exact .inl ⟨rfl, List.length_eq_zero_iff.1 h0⟩
  · refine .inr ⟨⟨g, 0, none⟩, cap, rfl, hn, hm, fun i hi => ?_⟩
    rw [add_plain', Nat.zero_add, obj_cell hh]
    have e1 : (l.map Value.string)[i]? = some (.string l[i]) := by simp [hi]
    rw [← e1, ← ht, List.getElem?_take, if_pos (by omega), Array.getElem?_toList]
theorem info9 : (Try.prog.info? 9).map (fun i => (i.zero, i.size, i.bytes)) = some (some (.string ⟨#[]⟩), 1, 16) := by kernel_rfl
theorem info9_parts : ∃ i, Try.prog.info? 9 = some i ∧ i.zero = some (.string ⟨#[]⟩) ∧ i.size = 1 ∧ i.bytes = 16 := by
  have h := info9
  rcases e : Try.prog.info? 9 with _ | i
  · rw [e] at h
    cases h
  · rw [e] at h
    simp only [Option.map_some, Option.some.injEq, Prod.mk.injEq] at h
    exact ⟨i, rfl, h.1, h.2.1, h.2.2⟩
theorem app_sx {w : World} {B : Nat} {v : Value} {l : List ByteArray} (h : OwS w B v l) (b : ByteArray) {g' : Nat} (hg : w.heap[g']? = some (.cells #[.string b] 9 (0, 0))) (hl : l.length ≤ 1048576) (hB : B ≤ w.heap.size) (ty : TypeId) :
    ∃ v' w', (Builtin.append_ #[135, 135] ty #[v, .slice (some ⟨g', 0, none⟩) 1 1]).run Try.prog w = .ok v' w' ∧ OwS w' B v' (l ++ [b]) ∧ Fr (fun k => v.ownBlock = some k) w w' := by
  obtain ⟨i0, hi0, hz0, hz1, hz2⟩ := info9_parts
  obtain ⟨v', w', hrun, hown, hgr, _, _⟩ := run_append_own_at (P := Try.prog) w B 135 ty 9 i0 _ 1 16 Try.underlying135 hi0 hz0 hz1 hz2 rfl (by decide) v l.length (l.map .string) h ⟨g', 0, none⟩ 1 1 [.string b] rfl
    (fun j u hu => by rw [add_plain', Nat.zero_add, obj_cell hg, ← hu]; simp) (by simp [Value.oneCell']) (by simp only [maxLen]; omega) (by omega) hB
  refine ⟨v', w', hrun, ?_, (Fr.refl _ w).grown hgr (fun k hk _ => hk)⟩
  unfold OwS
  rw [List.length_append, List.map_append]
  exact hown
def O4S (w0 : World) (bs : List ByteArray) (w : World) (bv iv : Value) : Prop := ∃ k : Nat, iv = .int .i64 k ∧ k ≤ bs.length ∧ OwS w w0.heap.size bv (bs.take k) ∧ Below w0.heap.size w0 w
end Go.Proofs.Ytljmaicobafgkaa
end
