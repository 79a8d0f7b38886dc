/- Chapter 15, replies: Few; the walk of RepliesNone. -/
import Derived.Test.YthcnoamgkkbkcaaRpDd
namespace Go.Proofs.Ythcnoamgkkbkcaa
open Go.RowKit

theorem RDeedArg.cap {w : World} {A : Option Addr} {n c : Nat} {l : List RDeed} (h : RDeedArg w (.slice A n c) l) : n ≤ c := by
  rcases h with ⟨e, rfl⟩ | ⟨a, cap, e, h1, -⟩
  · cases e
    exact Nat.le_refl _
  · cases e
    exact h1
def FwS (n : Nat) (iv : Value) : Prop := ∃ k : Nat, iv = .int .i64 (k : Int) ∧ k ≤ n
def FwR (n : Nat) (e : Ending) : Prop := e = .returned (.int .i64 0) ∨ (e = .returned (.int .i64 1) ∧ n ≤ 100)
set_option maxHeartbeats 8000000 in
set_option maxRecDepth 100000 in
theorem few15_any {w : World} {v : Value} {l : List RDeed} (hv : RDeedArg w v l) : Calls Try.prog 30 #[v] w fun e w' => FwR l.length e ∧ w = w' := by
  obtain ⟨LA, lcap, rfl⟩ := hv.slice
  have hlm := hv.len
  simp only [maxLen] at hlm
  have HV := hide hv
  obtain ⟨n, hn⟩ : ∃ n, n = l.length := ⟨_, rfl⟩
  rw [← hn] at hlm HV ⊢
  have HN := hide hn
  clear hv hn
  rcases Nat.lt_or_ge 100 n with hbig | hbig
  · have hbigi : (100 : Int) < (n : Int) := by omega
    have HR := hide (show FwR n (.returned (.int .i64 0)) from .inl rfl)
    go_enter Try.func30, Try.ntmps30
    go_wp2
    go_ret
    exact ⟨HR.out, rfl⟩
  have hbigi : ¬ (100 : Int) < (n : Int) := by omega
  have HR0 := hide (show FwR n (.returned (.int .i64 0)) from .inl rfl)
  have HR1 := hide (show FwR n (.returned (.int .i64 1)) from .inr ⟨rfl, hbig⟩)
  have HS := hide (show FwS n (.int .i64 0) from ⟨0, rfl, Nat.zero_le _⟩)
  go_enter Try.func30, Try.ntmps30
  go_wp2_with fail
  go_loopw [3] (fun iv wr => FwS n iv ∧ wr = w) (fun iv _ => n - (intOf iv).toNat)
  case atStart => exact ⟨HS.out, rfl⟩
  case round =>
    obtain ⟨⟨k, rfl, hk⟩, rfl⟩ := hrel
    rcases Nat.lt_or_ge k n with hkl | hkl
    · obtain ⟨a0, cap0, e0, hc1, hc2, q0, q1, q2, q3⟩ := HV.out.cells (k := k) (by have := HN.out; omega)
      injection e0 with e0a e0b e0c
      subst e0a e0c
      simp only [maxLen] at hc2
      obtain ⟨dr, hdr⟩ : ∃ d, d = (l[k]'(by have := HN.out; omega)).rep := ⟨_, rfl⟩
      rw [← hdr] at q3
      have hkli : (k : Int) < (n : Int) := by omega
      have HS2 := hide (show FwS n (.int .i64 ((k : Int) + 1)) from ⟨k + 1, rfl, hkl⟩)
      have hcapi : n ≤ lcap := by have := HN.out; omega
      clear hdr hc1 e0b q0 q1 q2
      rcases Nat.lt_or_ge 5000 dr.size with hsz | hsz
      · have hszi : (5000 : Int) < (dr.size : Int) := by omega
        go_wp2
        go_ret
        exact ⟨HR0.out, rfl⟩
      · have hszi : ¬ (5000 : Int) < (dr.size : Int) := by omega
        go_wp2
        go_roundw
        case rel => exact ⟨HS2.out, trivial⟩
        case measure => simp [intOf]; omega
    · have hke : n = k := by omega
      subst hke
      go_wp2
      go_ret
      exact ⟨HR1.out, rfl⟩
set_option maxHeartbeats 8000000 in
set_option maxRecDepth 100000 in
theorem walk_repliesNone (d : RDeed) (w : World) (_h : d.wf) : Calls Try.prog 11 #[.agg d.lst.toArray] w fun e w' => e = .returned (.bool true) ∧ Below w.heap.size w w' := by
  obtain ⟨kind, cl, id, rep⟩ := d
  obtain ⟨W, hW⟩ : ∃ W, W = w.alloc (.cells #[.int .i64 kind, .int .i64 cl, .int .i64 id, .string rep] 71) := ⟨_, rfl⟩
  have om : W.heap[w.heap.size]? = some (.cells #[.int .i64 kind, .int .i64 cl, .int .i64 id, .string rep] 71 (0, 0)) := by rw [hW]; exact obj_new w _
  have HB := hide (show Below w.heap.size w W from by rw [hW]; exact (Below.refl _ _).alloc (Nat.le_refl _) _)
  have y1 := obj_cell om 1
  have y2 := obj_cell om 2
  have y3 := obj_cell om 3
  simp only [List.getElem?_toArray, List.getElem?_cons_zero, List.getElem?_cons_succ] at y1 y2 y3
  have C1 := hide (fun W => takeR_nil cl id W)
  have C2 := hide (fun W => putR_nil cl id rep W)
  have C3 := hide (fun W => idsR_nil cl W)
  have C4 := hide (fun W => textR_nil W)
  have C5 := hide (fun W => awake15 W)
  clear om
  rw [hW] at y1 y2 y3 HB
  clear hW
  simp only [RDeed.lst]
  go_enter Try.func11, Try.ntmps11
  go_wp2_with fail
  refine (C1.out _).mono ?_
  rintro e w1 ⟨rfl, rfl⟩
  go_wp2_with fail
  refine (C2.out _).mono ?_
  rintro e w1 ⟨rfl, rfl⟩
  go_wp2_with fail
  refine (C3.out _).mono ?_
  rintro e w1 ⟨rfl, rfl⟩
  go_wp2_with fail
  refine (C4.out _).mono ?_
  rintro e w1 ⟨rfl, hb1⟩
  have HB1 := hide (HB.out.trans (hb1.mono HB.out.size))
  clear hb1
  go_wp2_with fail
  refine (C5.out _).mono ?_
  rintro e w2 ⟨rfl, hb2⟩
  have HB2 := hide (HB1.out.trans (hb2.mono HB1.out.size))
  clear hb2
  go_wp2
  go_ret
  exact ⟨rfl, HB2.out⟩
end Go.Proofs.Ythcnoamgkkbkcaa
