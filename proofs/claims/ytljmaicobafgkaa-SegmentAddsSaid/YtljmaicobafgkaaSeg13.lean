/- Chapter 31, segment: Open of what Seal wrote. -/
import Derived.Test.YtljmaicobafgkaaSeg12
import Derived.Test.YtljmaicobafgkaaSegLaw
namespace Go.Proofs.Ytljmaicobafgkaa
open Go.RowKit

theorem num_two {n : Int} (h0 : 0 ≤ n) (h1 : n < 8192) : (num n).length ≤ 2 := numN_length 1 _ (by unfold zz; rw [if_pos h0]; omega)
theorem num_three {n : Int} (h0 : 0 ≤ n) (h1 : n < 1048576) : (num n).length ≤ 3 := numN_length 2 _ (by unfold zz; rw [if_pos h0]; omega)
theorem num_five {n : Int} (h0 : 0 ≤ n) (h1 : n < 17179869184) : (num n).length ≤ 5 := numN_length 4 _ (by unfold zz; rw [if_pos h0]; omega)
theorem num_one {n : Int} (h0 : 0 ≤ n) (h1 : n < 64) : (num n).length ≤ 1 := numN_length 0 _ (by unfold zz; rw [if_pos h0]; omega)
theorem entB_short (e : Ent) (h : EntOk e) : (entB e).length ≤ 11 ∧ 1 ≤ (entB e).length := by
  obtain ⟨⟨_, _, b0, b1, c0, c1⟩, d0, d1, _, _⟩ := h
  have h1 := num_two b0 (by omega)
  have h2 := num_five c0 (by omega)
  have h3 := num_three d0 (by omega)
  unfold entB
  rw [List.length_cons, List.length_append, List.length_append]
  omega
theorem entsB_short : ∀ (l : List Ent), (∀ e ∈ l, EntOk e) → (l.flatMap entB).length ≤ 11 * l.length ∧ l.length ≤ (l.flatMap entB).length
  | [], _ => ⟨Nat.le_refl _, Nat.le_refl _⟩
  | e :: l, h => by
    have h1 := entB_short e (h e List.mem_cons_self)
    have h2 := entsB_short l (fun x hx => h x (List.mem_cons_of_mem _ hx))
    rw [List.flatMap_cons, List.length_append, List.length_cons]
    omega
/-- What holds of a segment's pieces after any Adds. -/
structure SegInv (size : Int) (l : List Pc) : Prop where
  ok : ∀ x ∈ l, x.ok
  fits : l = [] ∨ ((pcText l).length : Int) + over l.length ≤ size
theorem SegInv.nil (size : Int) : SegInv size [] := ⟨fun x hx => by simp at hx, .inl rfl⟩
theorem SegInv.snoc {size : Int} {l : List Pc} (h : SegInv size l) {x : Pc} (hx : x.ok) (hf : (x.body.size : Int) ≤ leftOf size (pcText l).length l.length) : SegInv size (l ++ [x]) := by
  refine ⟨fun y hy => ?_, .inr ?_⟩
  · rw [List.mem_append] at hy
    rcases hy with hy | hy
    · exact h.ok y hy
    · simp only [List.mem_singleton] at hy
      subst hy
      exact hx
  · rw [pcText_snoc, List.length_append, ← size_list, List.length_append, List.length_singleton]
    unfold leftOf at hf
    push_cast
    omega
theorem SegInv.bounds {size : Int} {l : List Pc} (h : SegInv size l) (h1 : size ≤ 65536) : (pcText l).length ≤ 65536 ∧ (l.length : Int) ≤ 2400 := by
  rcases h.fits with rfl | hf
  · simp [pcText]
  · unfold over at hf
    rw [if_neg (by omega)] at hf
    omega
theorem entsAt_mem : ∀ (l : List Pc) (p : Nat) (e : Ent), e ∈ entsAt p l → ∃ x ∈ l, e.kind = x.kind ∧ e.inode = x.inode ∧ e.block = x.block ∧ e.len = x.body.size ∧ (p : Int) ≤ e.pos ∧ e.pos + e.len ≤ ((p + (pcText l).length : Nat) : Int)
  | [], p, e, h => by simp [entsAt] at h
  | y :: l, p, e, h => by
    rw [entsAt, List.mem_cons] at h
    rw [pcText_cons, List.length_append, ← size_list]
    rcases h with rfl | h
    · exact ⟨y, List.mem_cons_self, rfl, rfl, rfl, rfl, by simp [Pc.ent], by simp only [Pc.ent]; omega⟩
    · obtain ⟨x, hx, h1, h2, h3, h4, h5, h6⟩ := entsAt_mem l _ e h
      exact ⟨x, List.mem_cons_of_mem _ hx, h1, h2, h3, h4, by omega, by omega⟩
theorem SegInv.ents {size : Int} {l : List Pc} (h : SegInv size l) (h1 : size ≤ 65536) : ∀ e ∈ entsAt 0 l, EntOk e := by
  intro e he
  obtain ⟨x, hx, e1, e2, e3, e4, e5, e6⟩ := entsAt_mem l 0 e he
  have hb := (h.bounds h1).1
  refine ⟨?_, by omega, by omega, by omega, by omega⟩
  rw [e1, e2, e3]
  exact h.ok x hx
/-- A segment's bytes. -/
def segB (l : List Pc) : List UInt8 := pcText l ++ (idxB (entsAt 0 l) ++ le4 ((idxB (entsAt 0 l)).length : Int))
def segS (l : List Pc) : ByteArray := sealS ⟨(segB l).toArray⟩
theorem segS_list (l : List Pc) : (segS l).data.toList = segB l ++ le4 (crc (segB l)) := by
  unfold segS
  rw [sealS_list]
theorem idxB_bound {size : Int} {l : List Pc} (h : SegInv size l) (h1 : size ≤ 65536) : (idxB (entsAt 0 l)).length ≤ 2 + 11 * l.length ∧ (l = [] → (idxB (entsAt 0 l)).length ≤ 1) := by
  have hb := h.bounds h1
  have h2 := (entsB_short _ (h.ents h1)).1
  rw [entsAt_len] at h2
  unfold idxB
  rw [List.length_append, entsAt_len]
  refine ⟨?_, ?_⟩
  · have := num_two (n := (l.length : Int)) (by omega) (by omega)
    omega
  · rintro rfl
    have := num_one (n := ((([] : List Pc).length : Nat) : Int)) (by simp) (by simp)
    simp [entsAt] at this ⊢
    exact this
theorem segS_size (l : List Pc) : (segS l).size = (pcText l).length + (idxB (entsAt 0 l)).length + 8 := by
  rw [size_list, segS_list, List.length_append, le4_length]
  unfold segB
  rw [List.length_append, List.length_append, le4_length]
  omega
theorem segS_bound {size : Int} {l : List Pc} (h : SegInv size l) (h0 : 16 ≤ size) (h1 : size ≤ 65536) : ((segS l).size : Int) ≤ size := by
  rw [segS_size]
  obtain ⟨h2, h3⟩ := idxB_bound h h1
  rcases h.fits with rfl | hf
  · have := h3 rfl
    simp [pcText]
    omega
  · unfold over at hf
    rw [if_neg (by omega)] at hf
    have := (h.bounds h1).2
    rcases l with _ | ⟨x, l⟩
    · have := h3 rfl
      simp [pcText] at *
      omega
    · simp only [List.length_cons] at *
      omega
theorem ext_mid (a b c : List UInt8) : (⟨(a ++ (b ++ c)).toArray⟩ : ByteArray).extract a.length (a.length + b.length) = ⟨b.toArray⟩ := by
  rw [extract_str]
  simp
theorem segOpen_seal (size : Int) (l : List Pc) (w : World) (h : SegInv size l) (h0 : 16 ≤ size) (h1 : size ≤ 65536) :
    Calls Try.prog 62 #[.string (segS l)] w fun e w' => ∃ A c, e = .returned (.tuple #[.slice A l.length c, .int .i64 0]) ∧ OwE w' w.heap.size (.slice A l.length c) (entsAt 0 l) ∧ Below w.heap.size w w' := by
  have hsz := segS_bound h h0 h1
  have hsz2 := segS_size l
  have hbd := h.bounds h1
  obtain ⟨T, hT⟩ : ∃ T, T = pcText l := ⟨_, rfl⟩
  obtain ⟨X, hX⟩ : ∃ X, X = idxB (entsAt 0 l) := ⟨_, rfl⟩
  have ho : openL (segS l).data.toList = some (segB l) := by
    rw [segS_list]
    exact openL_seal _
  have hB : segB l = T ++ (X ++ le4 (X.length : Int)) := by unfold segB; rw [← hT, ← hX]
  rw [← hT, ← hX] at hsz2
  have hXl : X.length < 4294967296 := by omega
  have hp : ∀ w : World, Calls Try.prog 131 #[.string ⟨(segB l).toArray⟩] w fun e w' => e = .returned (.tuple #[.string ⟨T.toArray⟩, .string ⟨X.toArray⟩, .bool true]) ∧ Below w.heap.size w w' := by
    intro w
    have hz : (⟨(segB l).toArray⟩ : ByteArray).size = (T.length + X.length) + 4 := by
      rw [str_size, hB]
      simp [le4]
      omega
    have h2 := parts_ok ⟨(segB l).toArray⟩ (T.length + X.length) X.length (ub (X.length : Int)) (ub ((X.length : Int) / 256)) (ub ((X.length : Int) / 65536)) (ub ((X.length : Int) / 16777216)) w (by omega) hz (by
      rw [extract_str, hz, hB, str_list, ← List.append_assoc, show T.length + X.length = (T ++ X).length from by simp, List.drop_left]
      simp [le4]) (by
      have := rd4_le4 (n := (X.length : Int)) (by omega) (by omega)
      omega) (by omega)
    rw [show T.length + X.length - X.length = T.length from by omega] at h2
    rw [show (⟨(segB l).toArray⟩ : ByteArray).extract 0 T.length = ⟨T.toArray⟩ from by rw [extract_str, hB]; simp, show (⟨(segB l).toArray⟩ : ByteArray).extract T.length (T.length + X.length) = ⟨X.toArray⟩ from by rw [hB]; exact ext_mid _ _ _] at h2
    exact h2
  have hn : rInt (some (⟨X.toArray⟩ : ByteArray).data.toList) = ((l.length : Int), some ((entsAt 0 l).flatMap entB)) := by
    rw [str_list, hX]
    unfold idxB
    rw [entsAt_len]
    exact rInt_num _ _ (by omega) (by omega)
  have hrd := segRd_enc T.length [] (by omega) l 0 [] h.ok (by rw [← hT]; omega)
  rw [List.append_nil, Nat.zero_add, List.nil_append, ← hT] at hrd
  have hsb : (⟨T.toArray⟩ : ByteArray).size = T.length := str_size T
  refine (segOpen_read (segS l) ⟨T.toArray⟩ ⟨X.toArray⟩ (segB l) l.length (some ((entsAt 0 l).flatMap entB)) (entsAt 0 l, some [], (T.length : Int)) w (by omega) (by omega) ho hp (by omega) (by rw [str_size]; omega) hn ?_ ?_).mono ?_
  · have := (entsB_short _ (h.ents h1)).2
    rw [entsAt_len] at this
    simpa [rLeft] using this
  · rw [hsb]
    exact hrd
  · rintro e w' ⟨v, rfl, hO, hbl⟩
    have hres : segRes ((⟨T.toArray⟩ : ByteArray).size : Int) (entsAt 0 l, some [], (T.length : Int)) = (entsAt 0 l, 0) := segRes_ok (by rfl) (by rw [hsb])
    rw [hres] at hO ⊢
    obtain ⟨A, c, rfl⟩ := row_slice hO
    rw [entsAt_len] at hO ⊢
    exact ⟨A, c, rfl, hO, hbl⟩
end Go.Proofs.Ytljmaicobafgkaa
