/- A join of 7 texts of this claim: Seg5, Seg6, ByteBuf, FrWalks2, FrByte, FrWalks3, Seg7. Conditions: none of their own. -/
import Derived.Test.YtljmaicobafgkaaQ12
import Derived.Test.YtljmaicobafgkaaQ11
import Derived.Lib.ConvBytes
import Derived.Laws.Strings
section
/- Chapter 31, segment: Add's refusals. -/
namespace Go.Proofs.Ytljmaicobafgkaa
open Go.RowKit

def entZ : Value := .agg #[.int .i64 0, .int .i64 0, .int .i64 0, .int .i64 0, .int .i64 0]
theorem five_fin {B g : Nat} {w w' : World} {v0 v1 v2 v3 v4 : Value} (h : Below B w w') (hg : B ≤ g) : Below B w (((((w'.setCell ⟨g, 0, none⟩ v0).setCell ⟨g, 1, none⟩ v1).setCell ⟨g, 2, none⟩ v2).setCell ⟨g, 3, none⟩ v3).setCell ⟨g, 4, none⟩ v4) := five_below h hg
set_option maxHeartbeats 4000000 in
set_option maxRecDepth 100000 in
theorem add_arg (g : Nat) (size : Int) (t : List UInt8) (l : List Ent) (lv : Value) (k i b : Int) (body : ByteArray) (w : World) (h : Sg w g size t l lv) (hm : ¬ mayE k i b) :
    Calls Try.prog 56 #[.pointer (some ⟨g, 0, none⟩), .int .i64 k, .int .i64 i, .int .i64 b, .string body] w fun e w' => e = .returned (.tuple #[entZ, .int .i64 1]) ∧ Below w.heap.size w w' := by
  have H := hide h
  have HM := hide (decide_eq_false hm)
  clear h hm
  have hA := (Below.refl w.heap.size w).alloc (Nat.le_refl _) (.cells #[.int .i64 0, .int .i64 0, .int .i64 0, .int .i64 0, .int .i64 0] 89)
  have H1 := hide (H.out.below hA)
  go_enter Try.func56, Try.ntmps56
  go_wp2_with fail
  refine (len_any g size t l lv _ H1.out).mono ?_
  rintro e w1 ⟨rfl, hb1⟩
  have R2 := hide (obj_below (obj_new w _) hb1)
  have B2 := hide (below_step (Below.refl _ w) (Nat.le_refl _) hb1)
  clear hb1 H1 hA
  go_wp2_with fail
  refine (may_any k i b _ _ _).mono ?_
  rintro e w2 ⟨rfl, hb2⟩
  rw [HM.out]
  have hR := obj_below (obj_alloc R2.out _) hb2
  have B3 := hide (below_step B2.out B2.out.size hb2)
  have y0 := obj_cell hR 0
  have y1 := obj_cell hR 1
  have y2 := obj_cell hR 2
  have y3 := obj_cell hR 3
  have y4 := obj_cell hR 4
  have f0 := obj_frozen hR 0
  have f1 := obj_frozen hR 1
  have f2 := obj_frozen hR 2
  have f3 := obj_frozen hR 3
  have f4 := obj_frozen hR 4
  simp only [List.getElem?_toArray, List.getElem?_cons_zero, List.getElem?_cons_succ] at y0 y1 y2 y3 y4
  have l2 := obj_lt hR
  have HR := hide hR
  clear hb2 hR R2 B2
  go_wp2
  exact bodyPost_ret (res_ct rfl _ _ w.heap.size 89 _ _ _ rfl (five_setT HR.out _ _ _ _ _) Try.underlying89 rfl (by kernel_rfl)) rfl ⟨rfl, five_below B3.out (Nat.le_refl _)⟩
set_option maxHeartbeats 4000000 in
set_option maxRecDepth 100000 in
theorem add_full (g : Nat) (size : Int) (t : List UInt8) (l : List Ent) (lv : Value) (k i b : Int) (body : ByteArray) (w : World) (h : Sg w g size t l lv) (h0 : 0 ≤ size) (h1 : size ≤ 65536) (ht : t.length ≤ 1048576) (hn : l.length ≤ 1048576)
    (hm : mayE k i b) (hf : leftOf size t.length l.length < (body.size : Int)) :
    Calls Try.prog 56 #[.pointer (some ⟨g, 0, none⟩), .int .i64 k, .int .i64 i, .int .i64 b, .string body] w fun e w' => e = .returned (.tuple #[entZ, .int .i64 5]) ∧ Below w.heap.size w w' := by
  have H := hide h
  have HM := hide (decide_eq_true hm)
  clear h hm
  have hA := (Below.refl w.heap.size w).alloc (Nat.le_refl _) (.cells #[.int .i64 0, .int .i64 0, .int .i64 0, .int .i64 0, .int .i64 0] 89)
  have H1 := hide (H.out.below hA)
  go_enter Try.func56, Try.ntmps56
  go_wp2_with fail
  refine (len_any g size t l lv _ H1.out).mono ?_
  rintro e w1 ⟨rfl, hb1⟩
  have H2 := hide (H1.out.below hb1)
  have R2 := hide (obj_below (obj_new w _) hb1)
  have B2 := hide (below_step (Below.refl _ w) (Nat.le_refl _) hb1)
  clear hb1 H1 hA
  go_wp2_with fail
  refine (may_any k i b _ _ _).mono ?_
  rintro e w2 ⟨rfl, hb2⟩
  rw [HM.out]
  have H3 := hide ((H2.out.below ((Below.refl _ w1).alloc (Nat.le_refl _) _)).below hb2)
  have R3 := hide (obj_below (obj_alloc R2.out _) hb2)
  have B3 := hide (below_step B2.out B2.out.size hb2)
  clear hb2 H2 R2 B2
  go_wp2_with fail
  refine (left_any g size t l lv _ H3.out h0 h1 ht hn).mono ?_
  rintro e w3 ⟨rfl, hb3⟩
  have hR := obj_below R3.out hb3
  have B4 := hide (below_on B3.out B3.out.size hb3)
  have y0 := obj_cell hR 0
  have y1 := obj_cell hR 1
  have y2 := obj_cell hR 2
  have y3 := obj_cell hR 3
  have y4 := obj_cell hR 4
  have f0 := obj_frozen hR 0
  have f1 := obj_frozen hR 1
  have f2 := obj_frozen hR 2
  have f3 := obj_frozen hR 3
  have f4 := obj_frozen hR 4
  simp only [List.getElem?_toArray, List.getElem?_cons_zero, List.getElem?_cons_succ] at y0 y1 y2 y3 y4
  have l2 := obj_lt hR
  have HR := hide hR
  clear hb3 hR R3 B3
  go_wp2
  exact bodyPost_ret (res_ct rfl _ _ w.heap.size 89 _ _ _ rfl (five_setT HR.out _ _ _ _ _) Try.underlying89 rfl (by kernel_rfl)) rfl ⟨rfl, five_below B4.out (Nat.le_refl _)⟩
set_option maxHeartbeats 4000000 in
set_option maxRecDepth 100000 in
theorem add_nil (k i b : Int) (body : ByteArray) (w : World) :
    Calls Try.prog 56 #[.pointer none, .int .i64 k, .int .i64 i, .int .i64 b, .string body] w fun e w' => e = .returned (.tuple #[entZ, .int .i64 1]) ∧ Below w.heap.size w w' := by
  go_enter Try.func56, Try.ntmps56
  go_wp2_with fail
  refine (len_nil _).mono ?_
  rintro e w1 ⟨rfl, hb1⟩
  have hR := obj_below (obj_new w _) hb1
  have B2 := hide (below_step (Below.refl _ w) (Nat.le_refl _) hb1)
  have y0 := obj_cell hR 0
  have y1 := obj_cell hR 1
  have y2 := obj_cell hR 2
  have y3 := obj_cell hR 3
  have y4 := obj_cell hR 4
  have f0 := obj_frozen hR 0
  have f1 := obj_frozen hR 1
  have f2 := obj_frozen hR 2
  have f3 := obj_frozen hR 3
  have f4 := obj_frozen hR 4
  simp only [List.getElem?_toArray, List.getElem?_cons_zero, List.getElem?_cons_succ] at y0 y1 y2 y3 y4
  have l2 := obj_lt hR
  have HR := hide hR
  clear hb1 hR
  go_wp2
  exact bodyPost_ret (res_ct rfl _ _ w.heap.size 89 #[.int .i64 0, .int .i64 0, .int .i64 0, .int .i64 0, .int .i64 0] _ _ rfl (obj_alloc (five_setT HR.out _ _ _ _ _) _) Try.underlying89 rfl (by kernel_rfl)) rfl ⟨rfl, (five_below B2.out (Nat.le_refl _)).alloc (five_below B2.out (Nat.le_refl _)).size _⟩
end Go.Proofs.Ytljmaicobafgkaa
end
section
/- Chapter 31, segment: Get, and the reference's. -/
namespace Go.Proofs.Ytljmaicobafgkaa
open Go.RowKit

def getOk (n : Nat) (f l : Int) : Prop := 0 ≤ f ∧ 0 ≤ l ∧ f ≤ n ∧ l ≤ n - f
set_option maxRecDepth 100000 in
theorem get_bad (s : ByteArray) (k i b f l : Int) (w : World) (hs : s.size ≤ 4611686018427387904) (hb : ¬ getOk s.size f l) :
    Calls Try.prog 64 #[.string s, .agg #[.int .i64 k, .int .i64 i, .int .i64 b, .int .i64 f, .int .i64 l]] w fun e w' => e = .returned (.tuple #[.string ⟨#[]⟩, .int .i64 1]) ∧ Below w.heap.size w w' := by
  by_cases h0 : f < 0
  · skip
    go_enter Try.func64, Try.ntmps64
    go_wp2
    go_ret2
    exact ⟨rfl, (Below.refl _ _).alloc (Nat.le_refl _) _⟩
  by_cases h1 : l < 0
  · skip
    go_enter Try.func64, Try.ntmps64
    go_wp2
    go_ret2
    exact ⟨rfl, (Below.refl _ _).alloc (Nat.le_refl _) _⟩
  by_cases h2 : (s.size : Int) < f
  · skip
    go_enter Try.func64, Try.ntmps64
    go_wp2
    go_ret2
    exact ⟨rfl, (Below.refl _ _).alloc (Nat.le_refl _) _⟩
  have h3 : (s.size : Int) - f < l := by unfold getOk at hb; omega
  go_enter Try.func64, Try.ntmps64
  go_wp2
  go_ret2
  exact ⟨rfl, (Below.refl _ _).alloc (Nat.le_refl _) _⟩
set_option maxRecDepth 100000 in
theorem get_ok (s : ByteArray) (k i b : Int) (f l : Nat) (w : World) (hs : s.size ≤ 4611686018427387904) (hf : f + l ≤ s.size) :
    Calls Try.prog 64 #[.string s, .agg #[.int .i64 k, .int .i64 i, .int .i64 b, .int .i64 f, .int .i64 l]] w fun e w' => e = .returned (.tuple #[.string (s.extract f (f + l)), .int .i64 0]) ∧ Below w.heap.size w w' := by
  obtain ⟨m, hm⟩ : ∃ m, m = f + l := ⟨_, rfl⟩
  rw [← hm]
  have hsum : (f : Int) + (l : Int) = (m : Int) := by omega
  have h4 : (f : Int) ≤ (m : Int) := by omega
  have h5 : (m : Int) ≤ (s.size : Int) := by omega
  have h6 : f ≤ m := by omega
  have h7 : m ≤ s.size := by omega
  have h0 : ¬ (f : Int) < 0 := by omega
  have h1 : ¬ (l : Int) < 0 := by omega
  have h2 : ¬ (s.size : Int) < (f : Int) := by omega
  have h3 : ¬ (s.size : Int) - (f : Int) < (l : Int) := by omega
  clear hm hf
  go_enter Try.func64, Try.ntmps64
  go_wp2
  go_ret2
  exact ⟨rfl, (Below.refl _ _).alloc (Nat.le_refl _) _⟩
set_option maxRecDepth 100000 in
theorem rGet_bad (s : ByteArray) (k i b f l : Int) (w : World) (hs : s.size ≤ 4611686018427387904) (hb : ¬ getOk s.size f l) :
    Calls Try.prog 145 #[.string s, .agg #[.int .i64 k, .int .i64 i, .int .i64 b, .int .i64 f, .int .i64 l]] w fun e w' => e = .returned (.tuple #[.string ⟨#[]⟩, .int .i64 1]) ∧ Below w.heap.size w w' := by
  by_cases h0 : f < 0
  · skip
    go_enter Try.func145, Try.ntmps145
    go_wp2
    go_ret2
    exact ⟨rfl, (Below.refl _ _).alloc (Nat.le_refl _) _⟩
  by_cases h1 : l < 0
  · skip
    go_enter Try.func145, Try.ntmps145
    go_wp2
    go_ret2
    exact ⟨rfl, (Below.refl _ _).alloc (Nat.le_refl _) _⟩
  by_cases h2 : (s.size : Int) < f
  · skip
    go_enter Try.func145, Try.ntmps145
    go_wp2
    go_ret2
    exact ⟨rfl, (Below.refl _ _).alloc (Nat.le_refl _) _⟩
  have h3 : (s.size : Int) - f < l := by unfold getOk at hb; omega
  go_enter Try.func145, Try.ntmps145
  go_wp2
  go_ret2
  exact ⟨rfl, (Below.refl _ _).alloc (Nat.le_refl _) _⟩
set_option maxRecDepth 100000 in
theorem rGet_ok (s : ByteArray) (k i b : Int) (f l : Nat) (w : World) (hs : s.size ≤ 4611686018427387904) (hf : f + l ≤ s.size) :
    Calls Try.prog 145 #[.string s, .agg #[.int .i64 k, .int .i64 i, .int .i64 b, .int .i64 f, .int .i64 l]] w fun e w' => e = .returned (.tuple #[.string (s.extract f (f + l)), .int .i64 0]) ∧ Below w.heap.size w w' := by
  obtain ⟨m, hm⟩ : ∃ m, m = f + l := ⟨_, rfl⟩
  rw [← hm]
  have hsum : (f : Int) + (l : Int) = (m : Int) := by omega
  have h4 : (f : Int) ≤ (m : Int) := by omega
  have h5 : (m : Int) ≤ (s.size : Int) := by omega
  have h6 : f ≤ m := by omega
  have h7 : m ≤ s.size := by omega
  have h0 : ¬ (f : Int) < 0 := by omega
  have h1 : ¬ (l : Int) < 0 := by omega
  have h2 : ¬ (s.size : Int) < (f : Int) := by omega
  have h3 : ¬ (s.size : Int) - (f : Int) < (l : Int) := by omega
  clear hm hf
  go_enter Try.func145, Try.ntmps145
  go_wp2
  go_ret2
  exact ⟨rfl, (Below.refl _ _).alloc (Nat.le_refl _) _⟩
end Go.Proofs.Ytljmaicobafgkaa
end
section
/- []byte(s): its row; a byte of it set; string(b) of it. -/
namespace Go.Proofs.Ytljmaicobafgkaa
open Go.RowKit

theorem conv_to (w : World) (s : ByteArray) : (convert 9 77 (.string s)).run Try.prog w = .ok (.slice (some ⟨w.heap.size, 0, none⟩) s.size (grownCap w s.size 0 5)) (Lib.bytesWorld w 5 s) :=
  Lib.run_convert_string_bytes w 9 77 5 s Try.underlying9 Try.underlying77 Try.underlying5
/-- A row of bytes with a mark beyond them. -/
def Buf (w : World) (g : Nat) (l : List UInt8) : Prop := ∃ (cs : Array Value) (k : Nat), w.heap[g]? = some (.cells cs 5 (k, k + 1)) ∧ l.length ≤ k ∧ k = cs.size ∧ ∀ (j : Nat) (u : Value), (byteVals l)[j]? = some u → cs[j]? = some u
theorem buf_new (w : World) (s : ByteArray) : Buf (Lib.bytesWorld w 5 s) w.heap.size s.data.toList := by
  refine ⟨_, _, Lib.bytesWorld_at_new w 5 s, ?_, rfl, fun j u hu => ?_⟩
  · simp [Lib.bytesCells]
  · have hj : j < s.data.toList.length := by
      have := (List.getElem?_eq_some_iff.1 hu).1
      simpa [byteVals] using this
    have h1 := Lib.bytesWorld_cell w 5 s j (by rw [size_list]; exact hj)
    have h2 := obj_cell (Lib.bytesWorld_at_new w 5 s) j
    rw [h2] at h1
    rw [h1, ← hu, byteVals_get hj]
    have hj2 : j < s.data.size := by simpa using hj
    simp only [List.getD, Array.getElem?_toList, Array.getElem?_eq_getElem hj2, Option.getD_some, Array.getElem_toList]
theorem buf_below (w : World) (s : ByteArray) {B : Nat} (hB : B ≤ w.heap.size) : Below B w (Lib.bytesWorld w 5 s) := by
  refine ⟨rfl, rfl, rfl, by rw [Lib.bytesWorld_size]; omega, fun k hk => Lib.bytesWorld_at_old w 5 s k (by omega)⟩
theorem Buf.cell {w : World} {g : Nat} {l : List UInt8} (h : Buf w g l) {j : Nat} (hj : j < l.length) : w.cell? ⟨g, j, none⟩ = some (.int .u8 (l[j].toNat : Int)) := by
  obtain ⟨cs, k, hh, _, _, hc⟩ := h
  rw [obj_cell hh]
  exact hc j _ (byteVals_get hj)
theorem Buf.thawed {w : World} {g : Nat} {l : List UInt8} (h : Buf w g l) {j : Nat} (hj : j < l.length) : w.frozen? ⟨g, j, none⟩ = false := by
  obtain ⟨cs, k, hh, hl, _, _⟩ := h
  simp [World.frozen?, hh]
  omega
theorem Buf.conv {w : World} {g : Nat} {l : List UInt8} (h : Buf w g l) (c : Nat) : (convert 77 9 (.slice (some ⟨g, 0, none⟩) l.length c)).run Try.prog w = .ok (.string ⟨l.toArray⟩) w := by
  obtain ⟨cs, k, hh, hl, _, hc⟩ := h
  refine conv_str l rfl (fun ad e j u hu => ?_) (fun e => by cases e)
  cases e
  rw [add_plain', Nat.zero_add, obj_cell hh]
  exact hc j u hu
theorem Buf.set {w : World} {g : Nat} {l : List UInt8} (h : Buf w g l) {i : Nat} (z : UInt8) : Buf (w.setCell ⟨g, i, none⟩ (.int .u8 (z.toNat : Int))) g (l.set i z) := by
  obtain ⟨cs, k, hh, hl, hk, hc⟩ := h
  refine ⟨cs.setIfInBounds i (.int .u8 (z.toNat : Int)), k, ?_, by simpa using hl, by simpa using hk, fun j u hu => ?_⟩
  · simp [World.setCell, Array.getElem?_modify, hh]
  · by_cases hj : j = i
    · subst hj
      have hlt : j < (l.set j z).length := by
        have := (List.getElem?_eq_some_iff.1 hu).1
        simpa [byteVals] using this
      rw [byteVals_get hlt] at hu
      simp at hu hlt
      rw [Array.getElem?_setIfInBounds_self_of_lt (by omega)]
      rw [hu]
    · rw [Array.getElem?_setIfInBounds_ne (by omega)]
      refine hc j u ?_
      rw [← hu]
      simp [byteVals, List.getElem?_set_ne (Ne.symm hj)]
theorem Buf.drew {w : World} {g : Nat} {l : List UInt8} (h : Buf w g l) : Buf w.drew g l := h
end Go.Proofs.Ytljmaicobafgkaa
end
section
/- Layer 12: FramesBack, as its row asks for it. -/
namespace Go.Proofs.Ytljmaicobafgkaa
open Go.RowKit

theorem chk_zero {k f t i : Int} {n : Nat} (h : chk k f t i n = 0) : msgOk k f t i ∧ n ≤ 4096 := by
  unfold chk at h
  by_cases h1 : msgOk k f t i
  · rw [if_pos h1] at h
    by_cases h2 : 4096 < n
    · rw [if_pos h2] at h
      omega
    · exact ⟨h1, by omega⟩
  · rw [if_neg h1] at h
    omega
/-- What Encode gives: a string that is read as the message, or an error. -/
theorem enc_cases (k f t i : Int) (b : ByteArray) (hb : b.size ≤ 9223372036854775807) :
    (∃ l : List UInt8, l.length ≤ 4200 ∧ EncTo k f t i b (sealS ⟨l.toArray⟩) 0 ∧ DecTo (sealS ⟨l.toArray⟩) k f t i b 0) ∨ ∃ c, c ≠ 0 ∧ EncTo k f t i b ⟨#[]⟩ c := by
  by_cases hc : chk k f t i b.size = 0
  · obtain ⟨hm, hn⟩ := chk_zero hc
    have hl := frB_len k f t i b.data.toList ⟨hm.2.2.2.2.2.2.1, by have := hm.2.2.2.2.2.2.2; omega⟩ (by rw [← size_list]; exact hn)
    refine .inl ⟨frB k f t i b.data.toList, hl, fun w => encode_ok k f t i b w hm hn, fun w => ?_⟩
    have hd := dec_enc k f t i b.data.toList hm (by rw [← size_list]; exact hn)
    rw [str_eta] at hd
    refine (decode_any _ w ?_ ?_).mono ?_
    · rw [sealS_size]
      omega
    · rw [sealS_size, str_size]
      omega
    · rintro e w' ⟨rfl, h⟩
      rw [hd]
      exact ⟨rfl, h⟩
  · exact .inr ⟨_, hc, fun w => encode_bad k f t i b w hb hc⟩
/-- What Decode gives: a message that is written as the string, or an error. -/
theorem dec_cases (s : ByteArray) (hs : s.size ≤ 10000) :
    ∃ k f t i b c, DecTo s k f t i b c ∧ (c ≠ 0 ∨ c = 0 ∧ EncTo k f t i b s 0) := by
  rcases Nat.lt_or_ge s.size 4 with h4 | h4
  · exact ⟨0, 0, 0, 0, ⟨#[]⟩, 2, fun w => decode_short s w h4, .inl (by decide)⟩
  · have hd : ∀ w : World, Calls Try.prog 49 #[.string s] w fun e w' => e = .returned (decV s.data.toList) ∧ Below w.heap.size w w' := fun w => decode_any s w h4 (by omega)
    rcases ho : openL s.data.toList with _ | t
    · refine ⟨0, 0, 0, 0, ⟨#[]⟩, 4, fun w => ?_, .inl (by decide)⟩
      have hv : decV s.data.toList = .tuple #[.agg #[.int .i64 0, .int .i64 0, .int .i64 0, .int .i64 0, .string ⟨#[]⟩], .int .i64 4] := by unfold decV; rw [ho]; rfl
      rw [← hv]
      exact hd w
    · have hv : decV s.data.toList = decR t := by unfold decV; rw [ho]
      by_cases hk : dOk t
      · refine ⟨dK t, dF t, dT t, dI t, ⟨(dB t).toArray⟩, 0, fun w => ?_, .inr ⟨rfl, fun w => ?_⟩⟩
        · have := hd w
          rw [hv, decR_ok hk] at this
          exact this
        · obtain ⟨he, hm, hb⟩ := enc_dec t hk
          have h1 := encode_ok (dK t) (dF t) (dT t) (dI t) ⟨(dB t).toArray⟩ w hm hb
          have h2 : sealS ⟨(frB (dK t) (dF t) (dT t) (dI t) (dB t)).toArray⟩ = s := by
            rw [he, ← str_eta (sealS _), sealS_list, str_list, ← openL_inv ho, str_eta]
          rw [show (⟨(dB t).toArray⟩ : ByteArray).data.toList = dB t from rfl, h2] at h1
          exact h1
      · refine ⟨0, 0, 0, 0, ⟨#[]⟩, 3, fun w => ?_, .inl (by decide)⟩
        have := hd w
        rw [hv, decR_no hk] at this
        exact this
theorem walk_framesBack (k f t i : Int) (b s : ByteArray) (w : World) (_hk : (Lit.int .i64 k).wf = true) (_hf : (Lit.int .i64 f).wf = true) (_ht : (Lit.int .i64 t).wf = true) (_hi : (Lit.int .i64 i).wf = true) (hb : b.size ≤ maxLen) (_hs : s.size ≤ 140737488351232) :
    Calls Try.prog 9 #[.agg #[.int .i64 k, .int .i64 f, .int .i64 t, .int .i64 i, .string b], .string s] w fun e w' => e = .returned (.bool true) ∧ Below w.heap.size w w' := by
  rcases Nat.lt_or_ge 10000 s.size with h | h
  · exact back_far awake12 k f t i b s w h
  · obtain ⟨k', f', t', i', b', c', hD', h'⟩ := dec_cases s h
    rcases enc_cases k f t i b hb with ⟨l, _, hE, hD⟩ | ⟨c, hc, hE⟩
    · rcases h' with hc' | ⟨rfl, hE'⟩
      · exact back_01 awake12 k f t i b s _ 0 k' f' t' i' b' c' hE hD hD' hc' w h
      · exact back_00 awake12 k f t i b s _ 0 k' f' t' i' b' 0 hE hD hD' hE' w h
    · rcases h' with hc' | ⟨rfl, hE'⟩
      · exact back_11 awake12 k f t i b s _ c k' f' t' i' b' c' hE hc hD' hc' w h
      · exact back_10 awake12 k f t i b s _ c k' f' t' i' b' 0 hE hc hD' hE' w h
end Go.Proofs.Ytljmaicobafgkaa
end
section
/- Layer 12: a byte of a message turned (FramesByte). -/
namespace Go.Proofs.Ytljmaicobafgkaa
open Go.RowKit

theorem buf_step {B m : Nat} {w w1 w2 : World} {o : ByteArray} {u : Value} (h1 : Below B w w1) (hB : B ≤ w1.heap.size)
    (h2 : Below ((Lib.bytesWorld w1 5 o).setCell ⟨w1.heap.size, m, none⟩ u).heap.size ((Lib.bytesWorld w1 5 o).setCell ⟨w1.heap.size, m, none⟩ u) w2) : Below B w w2 := by
  have hs := ((Below.refl (Lib.bytesWorld w1 5 o).heap.size (Lib.bytesWorld w1 5 o)).size)
  have h3 : B ≤ ((Lib.bytesWorld w1 5 o).setCell ⟨w1.heap.size, m, none⟩ u).heap.size := by
    have := ((Below.refl 0 (Lib.bytesWorld w1 5 o)).setCell (p := ⟨w1.heap.size, m, none⟩) (Nat.zero_le _) u).size
    rw [Lib.bytesWorld_size] at this
    omega
  exact ((h1.trans (buf_below w1 o hB)).setCell (p := ⟨w1.heap.size, m, none⟩) hB u).trans (h2.mono h3)
set_option maxHeartbeats 4000000 in
set_option maxRecDepth 100000 in
theorem byte_err (ha : Awake12) (k f t i : Int) (b : ByteArray) (c : Int) (hE : EncTo k f t i b ⟨#[]⟩ c) (hc : c ≠ 0) (n y : Int) (w : World) :
    Calls Try.prog 10 #[.agg #[.int .i64 k, .int .i64 f, .int .i64 t, .int .i64 i, .string b], .int .i64 n, .int .u8 y] w fun e w' => e = .returned (.bool true) ∧ Below w.heap.size w w' := by
  have hn1 : (c == 0) = false := by simp [hc]
  have hn2 : (c != 0) = true := by simp [hc]
  have HA := hide ha
  have HE := hide hE
  clear ha hE hc
  go_enter Try.func10, Try.ntmps10
  go_wp2_with fail
  refine (HE.out _).mono ?_
  rintro e w1 ⟨rfl, hb1⟩
  have HB1 := hide (below_step (Below.refl _ _) (Nat.le_refl _) hb1)
  have hz1 := HB1.out.size
  clear hb1
  go_wp2_with fail
  refine (HA.out _).mono ?_
  rintro e w5 ⟨rfl, hb5⟩
  go_wp2
  go_ret
  exact ⟨rfl, below_on HB1.out hz1 hb5⟩
set_option maxHeartbeats 4000000 in
set_option maxRecDepth 100000 in
theorem byte_same (ha : Awake12) (k f t i : Int) (b o : ByteArray) (hE : EncTo k f t i b o 0) (he : o.toList.isEmpty = false) (n : Int) (w : World) :
    Calls Try.prog 10 #[.agg #[.int .i64 k, .int .i64 f, .int .i64 t, .int .i64 i, .string b], .int .i64 n, .int .u8 0] w fun e w' => e = .returned (.bool true) ∧ Below w.heap.size w w' := by
  have HA := hide ha
  have HE := hide hE
  clear ha hE
  go_enter Try.func10, Try.ntmps10
  go_wp2_with fail
  refine (HE.out _).mono ?_
  rintro e w1 ⟨rfl, hb1⟩
  have HB1 := hide (below_step (Below.refl _ _) (Nat.le_refl _) hb1)
  have hz1 := HB1.out.size
  clear hb1
  go_wp2_with fail
  refine (HA.out _).mono ?_
  rintro e w5 ⟨rfl, hb5⟩
  go_wp2
  go_ret
  exact ⟨rfl, below_on HB1.out hz1 hb5⟩
set_option maxHeartbeats 4000000 in
set_option maxRecDepth 100000 in
theorem byte_turn (ha : Awake12) (k f t i : Int) (b o : ByteArray) (hE : EncTo k f t i b o 0) (he : o.toList.isEmpty = false) (h63 : o.size ≤ 1073741824) (n y : Int) (hy : y ≠ 0) (m : Nat) (hm : m < o.size)
    (hmod : wrap64 ((IntKind.u64.wrap n).tmod (o.size : Int)) = (m : Int)) (z : UInt8) (hz : bits .xor .u8 ((o.data[m]'hm).toNat : Int) y = (z.toNat : Int)) (hD : DecTo ⟨(o.data.toList.set m z).toArray⟩ 0 0 0 0 ⟨#[]⟩ 4) (w : World) :
    Calls Try.prog 10 #[.agg #[.int .i64 k, .int .i64 f, .int .i64 t, .int .i64 i, .string b], .int .i64 n, .int .u8 y] w fun e w' => e = .returned (.bool true) ∧ Below w.heap.size w w' := by
  have hn3 : (y == 0) = false := by simp [hy]
  have hn4 : (y != 0) = true := by simp [hy]
  have hu : IntKind.u64.wrap (o.size : Int) = (o.size : Int) := by
    show (o.size : Int) % 18446744073709551616 = _
    omega
  have hs0 : o.size ≠ 0 := by omega
  have HA := hide ha
  have HE := hide hE
  have HD := hide hD
  clear ha hE hD
  have hcv := fun W : World => conv_to W o
  have hcl := fun W : World => (buf_new W o).cell (j := m) hm
  have hfz := fun W : World => (buf_new W o).thawed (j := m) hm
  have hbk : ∀ W : World, (convert 77 9 (.slice (some ⟨W.heap.size, 0, none⟩) o.size (grownCap W o.size 0 5))).run Try.prog ((Lib.bytesWorld W 5 o).setCell ⟨W.heap.size, m, none⟩ (.int .u8 (z.toNat : Int))) = .ok (.string ⟨(o.data.toList.set m z).toArray⟩) ((Lib.bytesWorld W 5 o).setCell ⟨W.heap.size, m, none⟩ (.int .u8 (z.toNat : Int))) := fun W => by
    have := ((buf_new W o).set (i := m) z).conv (grownCap W o.size 0 5)
    rw [List.length_set, ← size_list] at this
    exact this
  go_enter Try.func10, Try.ntmps10
  go_wp2_with fail
  refine (HE.out _).mono ?_
  rintro e w1 ⟨rfl, hb1⟩
  have HB1 := hide (below_step (Below.refl _ _) (Nat.le_refl _) hb1)
  have hz1 := HB1.out.size
  clear hb1
  go_wp2_with fail
  refine (HD.out _).mono ?_
  rintro e w2 ⟨rfl, hb2⟩
  have HB2 := hide (buf_step HB1.out hz1 hb2)
  have hz2 := HB2.out.size
  clear hb2
  go_wp2_with fail
  refine (HA.out _).mono ?_
  rintro e w3 ⟨rfl, hb3⟩
  go_wp2
  go_ret
  exact ⟨rfl, below_step HB2.out hz2 hb3⟩
end Go.Proofs.Ytljmaicobafgkaa
end
section
/- Layer 12: FramesByte, as its row asks for it. -/
namespace Go.Proofs.Ytljmaicobafgkaa
open Go.RowKit

theorem wf_i64 {n : Int} (h : (Lit.int .i64 n).wf = true) : -9223372036854775808 ≤ n ∧ n ≤ 9223372036854775807 := by
  simp [Lit.wf, IntKind.min, IntKind.max, IntKind.signed, IntKind.bits] at h
  omega
theorem wf_u8 {n : Int} (h : (Lit.int .u8 n).wf = true) : 0 ≤ n ∧ n ≤ 255 := by
  simp [Lit.wf, IntKind.min, IntKind.max, IntKind.signed, IntKind.bits] at h
  omega
theorem str_some {o : ByteArray} (h : o.size ≠ 0) : o.toList.isEmpty = false := by
  rw [ByteArray.toList_eq]
  rcases e : o.data.toList with _ | ⟨a, l⟩
  · exact absurd (by rw [size_list, e]; rfl) h
  · rfl
theorem wrap64_small {n : Int} (h0 : -9223372036854775808 ≤ n) (h1 : n ≤ 9223372036854775807) : wrap64 n = n := by
  unfold wrap64
  omega
theorem xor_u8 (a b : Nat) (ha : a < 256) (hb : b < 256) : bits .xor .u8 (a : Int) (b : Int) = ((a ^^^ b : Nat) : Int) := by
  show IntKind.u8.wrap ((BitVec.ofInt 8 (a : Int) ^^^ BitVec.ofInt 8 (b : Int)).toNat : Int) = _
  have h : (BitVec.ofInt 8 (a : Int) ^^^ BitVec.ofInt 8 (b : Int)).toNat = a ^^^ b := by
    rw [BitVec.toNat_xor, BitVec.ofInt_natCast, BitVec.toNat_ofNat, BitVec.ofInt_natCast, BitVec.toNat_ofNat, Nat.mod_eq_of_lt (by omega), Nat.mod_eq_of_lt (by omega)]
  have hx : a ^^^ b < 2 ^ 8 := Nat.xor_lt_two_pow (by omega) (by omega)
  rw [h]
  show ((a ^^^ b : Nat) : Int) % 256 = _
  omega
theorem turned_ne (a b : Nat) (hb : b ≠ 0) : a ^^^ b ≠ a := fun h => by
  have h2 := congrArg (a ^^^ ·) h
  simp only [← Nat.xor_assoc, Nat.xor_self, Nat.zero_xor] at h2
  exact hb h2
theorem dec_turned (l : List UInt8) (hl : l.length ≤ 4200) (m : Nat) (hm : m < (sealS ⟨l.toArray⟩).size) (z : UInt8) (hz : (sealS ⟨l.toArray⟩).data.toList[m] ≠ z) :
    DecTo ⟨((sealS ⟨l.toArray⟩).data.toList.set m z).toArray⟩ 0 0 0 0 ⟨#[]⟩ 4 := fun w => by
  have hs : (sealS ⟨l.toArray⟩).size = l.length + 4 := sealS_size ⟨l.toArray⟩
  have e := sealS_list ⟨l.toArray⟩
  have hsz : (⟨((sealS ⟨l.toArray⟩).data.toList.set m z).toArray⟩ : ByteArray).size = (sealS ⟨l.toArray⟩).size := by rw [str_size, List.length_set, ← size_list]
  refine (decode_any _ w ?_ ?_).mono ?_
  · rw [hsz]
    omega
  · rw [hsz]
    omega
  · rintro e' w' ⟨rfl, h⟩
    have ho : openL ((sealS ⟨l.toArray⟩).data.toList.set m z) = none := by
      have hm2 : m < (l ++ le4 (crc l)).length := by
        rw [← str_list l, ← e, ← size_list]
        exact hm
      have := open_turned l m z hm2 (by
        have h2 : (sealS ⟨l.toArray⟩).data.toList[m]'(by rw [← size_list]; exact hm) = (l ++ le4 (crc l))[m] := by
          simp only [e]
        rw [← h2]
        exact hz)
      rw [e]
      exact this
    have hv : decV ((sealS ⟨l.toArray⟩).data.toList.set m z) = .tuple #[.agg #[.int .i64 0, .int .i64 0, .int .i64 0, .int .i64 0, .string ⟨#[]⟩], .int .i64 4] := by unfold decV; rw [ho]; rfl
    rw [str_list, hv]
    exact ⟨rfl, h⟩
theorem walk_framesByte (k f t i : Int) (b : ByteArray) (n y : Int) (w : World) (_hk : (Lit.int .i64 k).wf = true) (_hf : (Lit.int .i64 f).wf = true) (_ht : (Lit.int .i64 t).wf = true) (_hi : (Lit.int .i64 i).wf = true) (hb : b.size ≤ maxLen)
    (_hn : (Lit.int .i64 n).wf = true) (hy : (Lit.int .u8 y).wf = true) :
    Calls Try.prog 10 #[.agg #[.int .i64 k, .int .i64 f, .int .i64 t, .int .i64 i, .string b], .int .i64 n, .int .u8 y] w fun e w' => e = .returned (.bool true) ∧ Below w.heap.size w w' := by
  have hy2 := wf_u8 hy
  rcases enc_cases k f t i b hb with ⟨l, hl, hE, _⟩ | ⟨c, hc, hE⟩
  · have hs : (sealS ⟨l.toArray⟩).size = l.length + 4 := sealS_size ⟨l.toArray⟩
    have he : (sealS ⟨l.toArray⟩).toList.isEmpty = false := str_some (by omega)
    by_cases h0 : y = 0
    · subst h0
      exact byte_same awake12 k f t i b _ hE he n w
    · have hu : IntKind.u64.wrap n = n % 18446744073709551616 := rfl
      have hn0 := Int.emod_nonneg n (b := 18446744073709551616) (by decide)
      have hm0 := Int.emod_nonneg (n % 18446744073709551616) (b := ((sealS ⟨l.toArray⟩).size : Int)) (by omega)
      have hm1 := Int.emod_lt_of_pos (n % 18446744073709551616) (b := ((sealS ⟨l.toArray⟩).size : Int)) (by omega)
      obtain ⟨m, hm⟩ : ∃ m : Nat, n % 18446744073709551616 % ((sealS ⟨l.toArray⟩).size : Int) = (m : Int) := ⟨_, (Int.toNat_of_nonneg hm0).symm⟩
      have hlt : m < (sealS ⟨l.toArray⟩).size := by omega
      have hmod : wrap64 ((IntKind.u64.wrap n).tmod ((sealS ⟨l.toArray⟩).size : Int)) = (m : Int) := by
        rw [hu, Int.tmod_eq_emod_of_nonneg hn0, hm]
        exact wrap64_small (by omega) (by omega)
      obtain ⟨y', rfl⟩ : ∃ y' : Nat, y = (y' : Int) := ⟨_, (Int.toNat_of_nonneg hy2.1).symm⟩
      obtain ⟨a, ha⟩ : ∃ a, a = (sealS ⟨l.toArray⟩).data[m]'hlt := ⟨_, rfl⟩
      have ha8 := a.toNat_lt
      have hx : a.toNat ^^^ y' < 2 ^ 8 := Nat.xor_lt_two_pow (by omega) (by omega)
      have hz : bits .xor .u8 (((sealS ⟨l.toArray⟩).data[m]'hlt).toNat : Int) (y' : Int) = ((UInt8.ofNat (a.toNat ^^^ y')).toNat : Int) := by
        rw [← ha, xor_u8 _ _ (by omega) (by omega), UInt8.toNat_ofNat', Nat.mod_eq_of_lt hx]
      have hne : (sealS ⟨l.toArray⟩).data.toList[m]'(by rw [← size_list]; exact hlt) ≠ UInt8.ofNat (a.toNat ^^^ y') := by
        rw [Array.getElem_toList, ← ha]
        intro h
        have h2 := congrArg UInt8.toNat h
        rw [UInt8.toNat_ofNat', Nat.mod_eq_of_lt hx] at h2
        exact turned_ne a.toNat y' (by omega) h2.symm
      exact byte_turn awake12 k f t i b _ hE he (by omega) n y' h0 m hlt hmod _ hz (dec_turned l hl m hlt _ hne) w
  · exact byte_err awake12 k f t i b c hE hc n y w
end Go.Proofs.Ytljmaicobafgkaa
end
section
/- Chapter 31, segment: a number of four bytes; parts. -/
namespace Go.Proofs.Ytljmaicobafgkaa
open Go.RowKit

theorem or_i64 (a b i : Nat) (ha : a < 2 ^ i) (hs : a + b * 2 ^ i < 4611686018427387904) : bits .or .i64 (a : Int) ((b * 2 ^ i : Nat) : Int) = ((a + b * 2 ^ i : Nat) : Int) := by
  show IntKind.i64.wrap ((BitVec.ofInt 64 (a : Int) ||| BitVec.ofInt 64 ((b * 2 ^ i : Nat) : Int)).toNat : Int) = _
  have h : (BitVec.ofInt 64 (a : Int) ||| BitVec.ofInt 64 ((b * 2 ^ i : Nat) : Int)).toNat = a + b * 2 ^ i := by
    rw [BitVec.toNat_or, BitVec.ofInt_natCast, BitVec.toNat_ofNat, BitVec.ofInt_natCast, BitVec.toNat_ofNat, Nat.mod_eq_of_lt (by omega), Nat.mod_eq_of_lt (by omega)]
    have := Nat.shiftLeft_add_eq_or_of_lt ha b
    rw [Nat.shiftLeft_eq] at this
    rw [Nat.or_comm, ← this, Nat.add_comm]
  rw [h]
  generalize a + b * 2 ^ i = m at hs
  have hm : ((m : Int)) % 18446744073709551616 = (m : Int) := by omega
  show (if (true && decide ((m : Int) % 18446744073709551616 ≥ 9223372036854775808)) = true then (m : Int) % 18446744073709551616 - 18446744073709551616 else (m : Int) % 18446744073709551616) = (m : Int)
  rw [hm, if_neg (by simp; omega)]
/-- The number that four bytes are. -/
def rd4 (a b c d : UInt8) : Nat := a.toNat + b.toNat * 256 + c.toNat * 65536 + d.toNat * 16777216
theorem rd4_or (a b c d : UInt8) :
    bits .or .i64 (bits .or .i64 (bits .or .i64 (wrap64 (a.toNat : Int)) (wrap64 (wrap64 (b.toNat : Int) * 256))) (wrap64 (wrap64 (c.toNat : Int) * 65536))) (wrap64 (wrap64 (d.toNat : Int) * 16777216)) = (rd4 a b c d : Int) := by
  have ha := a.toNat_lt
  have hb := b.toNat_lt
  have hc := c.toNat_lt
  have hd := d.toNat_lt
  rw [wrap64_small (n := (a.toNat : Int)) (by omega) (by omega), wrap64_small (n := (b.toNat : Int)) (by omega) (by omega), wrap64_small (n := (c.toNat : Int)) (by omega) (by omega), wrap64_small (n := (d.toNat : Int)) (by omega) (by omega)]
  rw [wrap64_small (n := (b.toNat : Int) * 256) (by omega) (by omega), wrap64_small (n := (c.toNat : Int) * 65536) (by omega) (by omega), wrap64_small (n := (d.toNat : Int) * 16777216) (by omega) (by omega)]
  have e1 := or_i64 a.toNat b.toNat 8 (by omega) (by omega)
  have e2 := or_i64 (a.toNat + b.toNat * 2 ^ 8) c.toNat 16 (by omega) (by omega)
  have e3 := or_i64 (a.toNat + b.toNat * 2 ^ 8 + c.toNat * 2 ^ 16) d.toNat 24 (by omega) (by omega)
  simp only [show (2 : Nat) ^ 8 = 256 from rfl, show (2 : Nat) ^ 16 = 65536 from rfl, show (2 : Nat) ^ 24 = 16777216 from rfl] at e1 e2 e3
  rw [show ((b.toNat : Int) * 256) = ((b.toNat * 256 : Nat) : Int) from by omega, show ((c.toNat : Int) * 65536) = ((c.toNat * 65536 : Nat) : Int) from by omega, show ((d.toNat : Int) * 16777216) = ((d.toNat * 16777216 : Nat) : Int) from by omega, e1, e2, e3]
  rfl
/-- The four bytes of a number are it. -/
theorem rd4_le4 {n : Int} (h0 : 0 ≤ n) (h1 : n < 4294967296) : (rd4 (ub n) (ub (n / 256)) (ub (n / 65536)) (ub (n / 16777216)) : Int) = n := by
  have e0 := ub_val n
  have e1 := ub_val (n / 256)
  have e2 := ub_val (n / 65536)
  have e3 := ub_val (n / 16777216)
  unfold rd4
  omega
end Go.Proofs.Ytljmaicobafgkaa
end
