/- Chapter 15, replies: Text: what is laid; the closures. -/
import Derived.Test.YthcnoamgkkbkcaaRp6
import Derived.Test.YthcnoamgkkbkcaaRef3
namespace Go.Proofs.Ythcnoamgkkbkcaa
open Go.RowKit

/-- The clients that have calls, rising. -/
def cls (S : RS) : List Int := ((List.range 64).map fun n : Nat => (n : Int)).filter fun c => !(S.L c).isEmpty
/-- A client's bytes. -/
def clB (S : RS) (c : Int) : List UInt8 := ([ub c] ++ num (S.L c).length) ++ (S.L c).flatMap enB
def textR (S : RS) : List UInt8 := ([ub S.room] ++ num (cls S).length) ++ (cls S).flatMap (clB S)
theorem cls_mem {S : RS} (h : ROk S) (c : Int) : c ∈ cls S ↔ S.L c ≠ [] := by
  unfold cls
  rw [List.mem_filter]
  constructor
  · rintro ⟨-, h1⟩ e
    rw [e] at h1
    simp at h1
  · intro h1
    have h2 : 0 ≤ c ∧ c < 64 := Classical.not_not.1 (fun hc => h1 (h.out c hc))
    refine ⟨List.mem_map.2 ⟨c.toNat, List.mem_range.2 (by omega), by omega⟩, ?_⟩
    simpa using h1
theorem cls_rising (S : RS) : (cls S).Pairwise (· < ·) := by
  unfold cls
  refine List.Pairwise.filter _ ?_
  rw [List.pairwise_map]
  exact List.pairwise_lt_range.imp fun h => by omega
theorem cls_len (S : RS) : (cls S).length ≤ 64 := by
  unfold cls
  refine Nat.le_trans (List.length_filter_le _ _) ?_
  simp
theorem cls_rng {S : RS} {c : Int} (h : c ∈ cls S) : 0 ≤ c ∧ c < 64 := by
  unfold cls at h
  obtain ⟨n, hn, rfl⟩ := List.mem_map.1 (List.mem_filter.1 h).1
  have := List.mem_range.1 hn
  omega
theorem enB_len {S : RS} (h : ROk S) {c : Int} {e : En} (he : e ∈ S.L c) : (enB e).length ≤ 4117 := by
  have h1 := h.rng c e he
  have h2 := h.rep c e he
  have h3 := num_len e.id (by omega) (by omega)
  have h4 := num_len (e.rep.data.toList.length : Int) (by omega) (by rw [← size_list]; omega)
  unfold enB
  rw [List.length_append]
  by_cases hb : e.busy = true
  · rw [if_pos hb]
    simp
    omega
  · rw [if_neg hb, List.length_cons]
    unfold textB
    rw [List.length_append, ← size_list]
    rw [← size_list] at h4
    omega
theorem flat_len {α : Type} {g : α → List UInt8} {m : Nat} : ∀ {l : List α}, (∀ x ∈ l, (g x).length ≤ m) → (l.flatMap g).length ≤ l.length * m
  | [], _ => by simp
  | x :: l, h => by
    rw [List.flatMap_cons, List.length_append, List.length_cons, Nat.add_mul]
    have h1 := h x (by simp)
    have h2 := flat_len (l := l) (fun y hy => h y (by simp [hy]))
    omega
theorem clB_len {S : RS} (h : ROk S) (c : Int) : (clB S c).length ≤ 65883 := by
  have h1 := h.len c
  have h2 := h.room
  have h3 := num_len ((S.L c).length : Int) (by omega) (by omega)
  have h4 := flat_len (g := enB) (m := 4117) (l := S.L c) (fun e he => enB_len h he)
  have h5 : (S.L c).length * 4117 ≤ 16 * 4117 := Nat.mul_le_mul_right _ (by omega)
  unfold clB
  rw [List.length_append, List.length_append, List.length_singleton]
  omega
theorem lay61_any (gw r1 al g cm n cp : Nat) (A : Option Addr) (room : Int) (w : World) (hW : Wr w gw 65536 [] 0) (h1 : w.heap[r1]? = some (.cells #[.pointer (some ⟨g, 0, none⟩)] 63 (0, 0))) (h2 : w.heap[g]? = some (.cells #[.int .i64 room, .map (some cm)] 108 (0, 0))) (h3 : w.heap[al]? = some (.cells #[.slice A n cp] 54 (0, 0)))
    (hr : 1 ≤ room ∧ room ≤ 16) (hn : n ≤ 64) :
    Calls Try.prog 61 #[.pointer (some ⟨gw, 0, none⟩), .pointer (some ⟨r1, 0, none⟩), .pointer (some ⟨al, 0, none⟩)] w fun e w' => e = .returned (.tuple #[]) ∧ Wr w' gw 65536 ([ub room] ++ num n) 0 ∧ Fr (· = gw) w w' := by
  have z1 := obj_cell h1 0
  have z2 := obj_cell h2 0
  simp only [List.getElem?_toArray, List.getElem?_cons_zero] at z1 z2
  have hg : ∀ {k : Nat} {cs : Array Value} {t : TypeId}, w.heap[k]? = some (.cells cs t (0, 0)) → t ≠ 168 → ¬ k = gw := fun hk ht e => by
    obtain ⟨A', c', hb, -⟩ := hW
    rw [e, hb] at hk
    simp only [Option.some.injEq, Obj.cells.injEq] at hk
    exact ht hk.2.1.symm
  have h3n := hg h3 (by decide)
  have HB := hide (wByte_fits gw 65536 [] room w hW (by simp) (by omega) (by omega) (by simp))
  have H3 := hide h3
  clear h1 h2 h3 hg hW
  go_enter Try.func61, Try.ntmps61
  go_wp2_with fail
  refine HB.out.mono ?_
  rintro e w1 ⟨rfl, hw1, hf1⟩
  rw [List.nil_append] at hw1
  have z3 := obj_cell (hf1.obj H3.out h3n) 0
  simp only [List.getElem?_toArray, List.getElem?_cons_zero] at z3
  have HI := hide (wInt_fits gw 65536 [ub room] (n : Int) w1 hw1 (by simp) (by omega) (by omega) (by simp))
  have HF1 := hide hf1
  clear hw1 hf1
  go_wp2_with fail
  refine HI.out.mono ?_
  rintro e w2 ⟨rfl, hw2, hf2⟩
  have HW2 := hide hw2
  have HF2 := hide (HF1.out.trans hf2 (fun _ _ e => e))
  clear hw2 hf2
  go_wp2
  go_end0
  exact ⟨rfl, HW2.out, HF2.out⟩
set_option maxHeartbeats 4000000 in
set_option maxRecDepth 100000 in
theorem lay64_any (gw r1 cl g cm B : Nat) (c : Int) {S : RS} {f : Int → Option Value} (w : World) (hW : Wr w gw 65536 [] 0) (h1 : w.heap[r1]? = some (.cells #[.pointer (some ⟨g, 0, none⟩)] 63 (0, 0))) (h : RV w B g cm S f) (hk : ROk S) (h3 : w.heap[cl]? = some (.cells #[.int .i64 c] 3 (0, 0)))
    (hc : 0 ≤ c ∧ c < 64) :
    Calls Try.prog 64 #[.pointer (some ⟨gw, 0, none⟩), .pointer (some ⟨cl, 0, none⟩), .pointer (some ⟨r1, 0, none⟩)] w fun e w' => e = .returned (.tuple #[]) ∧ Wr w' gw 65536 ([ub c] ++ num (S.L c).length) 0 ∧ Fr (· = gw) w w' := by
  have z1 := obj_cell h3 0
  simp only [List.getElem?_toArray, List.getElem?_cons_zero] at z1
  have hg : ∀ {k : Nat} {cs : Array Value} {t : TypeId}, w.heap[k]? = some (.cells cs t (0, 0)) → t ≠ 168 → ¬ k = gw := fun hk ht e => by
    obtain ⟨A', c', hb, -⟩ := hW
    rw [e, hb] at hk
    simp only [Option.some.injEq, Obj.cells.injEq] at hk
    exact ht hk.2.1.symm
  have h1n := hg h1 (by decide)
  have h2n := hg h.o (by decide)
  have h3n := hg h3 (by decide)
  have hmn : ¬ cm = gw := fun e => by
    obtain ⟨es, k, h5⟩ := MK.mp_obj h.mp
    obtain ⟨A', c', hb, -⟩ := hW
    rw [e, hb] at h5
    cases h5
  have HB := hide (wByte_fits gw 65536 [] c w hW (by simp) (by omega) (by omega) (by simp))
  have H1 := hide h1
  have H2 := hide h.o
  have H3 := hide h3
  have HMP := hide h.mp
  obtain ⟨A, cp, e1, -, -⟩ := EK.sg_slice (h.sg c)
  have HE1 := hide e1
  have hlen := hk.len c
  have hroom := hk.room
  obtain ⟨n, hn⟩ : ∃ n, n = (S.L c).length := ⟨_, rfl⟩
  rw [← hn] at hlen HE1 ⊢
  have hnb : (n : Int) ≤ 16 := by omega
  clear h1 h h3 hg hW e1 hn hk hlen hroom
  go_enter Try.func64, Try.ntmps64
  go_wp2_with fail
  refine HB.out.mono ?_
  rintro e w1 ⟨rfl, hw1, hf1⟩
  rw [List.nil_append] at hw1
  have y1 := obj_cell (hf1.obj H1.out h1n) 0
  have y2 := obj_cell (hf1.obj H2.out h2n) 1
  have y3 := obj_cell (hf1.obj H3.out h3n) 0
  simp only [List.getElem?_toArray, List.getElem?_cons_zero, List.getElem?_cons_succ] at y1 y2 y3
  have hlk : (Instr.lookup 106 (.map (some cm)) (.int .i64 c) false).run Try.prog w1.drew = .ok (.slice A n cp) w1.drew := by
    have := MK.run_look (show kR.mp w1.drew cm f from MK.mp_fr HMP.out hf1.drew hmn) c
    have h9 := HE1.out
    unfold vOf at h9
    rcases e : f c with _ | v <;> rw [e] at this h9
    · rw [← h9]
      exact this
    · rw [← h9]
      exact this
  have HI := hide (wInt_fits gw 65536 [ub c] (n : Int) w1.drew (hw1.below (Below.refl _ _).drew) (by simp) (by omega) (by omega) (by simp))
  have HF1 := hide hf1
  clear hw1 hf1 z1
  go_wp2_with fail
  refine wp_stl 8 (by kernel_rfl) (by kernel_rfl) ?_
  simp only [List.take_succ_cons, List.take_zero, List.drop_succ_cons, List.drop_zero]
  repeat still_step
  refine wpStill_nil ?_
  go_wp2_with fail
  refine HI.out.mono ?_
  rintro e w2 ⟨rfl, hw2, hf2⟩
  have HW2 := hide hw2
  have HF2 := hide ((HF1.out.drew).trans hf2 (fun _ _ e => e))
  clear hw2 hf2
  go_wp2
  go_end0
  exact ⟨rfl, HW2.out, HF2.out⟩
end Go.Proofs.Ythcnoamgkkbkcaa
