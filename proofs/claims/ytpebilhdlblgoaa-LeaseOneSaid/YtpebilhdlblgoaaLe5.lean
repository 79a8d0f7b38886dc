/- Chapter 27, lease: Len, Of. -/
import Derived.Test.YtpebilhdlblgoaaLe4
namespace Go.Proofs.Ytpebilhdlblgoaa
open Go.RowKit

set_option maxHeartbeats 4000000 in
set_option maxRecDepth 100000 in
theorem lall_nil (HSORT : SortsL) (w : World) : Calls Try.prog 29 #[.pointer none] w fun e w' => ∃ v', e = .returned v' ∧ kR.row w' w.heap.size v' [] ∧ Below w.heap.size w w' := by
  have HS := hide (HSORT w w.heap.size (.slice none 0 0) [] (EK.row_nil _ _) (by decide) (fun x hx => by simp at hx))
  go_enter Try.func29, Try.ntmps29
  go_wp2_with fail
  refine HS.out.mono ?_
  rintro e w1 ⟨rfl, l', hp, -, hrow, hf⟩
  have e0 : l' = [] := hp.eq_nil
  subst e0
  have HR := hide hrow
  have HB := hide (hf.below w.heap.size (Nat.le_refl _) (fun k hk e => by cases e))
  clear hrow hf hp
  go_wp2
  go_ret
  exact ⟨_, rfl, HR.out, HB.out⟩
theorem llen_nil (HSORT : SortsL) (w : World) : Calls Try.prog 17 #[.pointer none] w fun e w' => e = .returned (.int .i64 0) ∧ Below w.heap.size w w' := by
  have HA := hide (lall_nil HSORT w)
  go_enter Try.func17, Try.ntmps17
  go_wp2_with fail
  refine HA.out.mono ?_
  rintro e w1 ⟨v', rfl, hrow, hb⟩
  obtain ⟨A, c, rfl⟩ := EK.row_slice hrow
  clear hrow
  go_wp2
  go_ret
  exact ⟨rfl, hb⟩
/-- All leases of S, by inodes. -/
def AllL (S : Les) (l : List Lse) : Prop := (∀ x, x ∈ l ↔ S.f x.ino = some x) ∧ l.Pairwise (fun a b => a.ino < b.ino)
theorem llen_any (HSORT : SortsL) {w : World} {g c : Nat} {S : Les} (h : LV w g c S) (hd : LOk S) : Calls Try.prog 17 #[.pointer (some ⟨g, 0, none⟩)] w fun e w' => ∃ l, AllL S l ∧ e = .returned (.int .i64 (l.length : Int)) ∧ Below w.heap.size w w' := by
  have HA := hide (lall_any HSORT h hd)
  clear h
  go_enter Try.func17, Try.ntmps17
  go_wp2_with fail
  refine HA.out.mono ?_
  rintro e w1 ⟨v', l, rfl, hrow, h1, h2, hb⟩
  obtain ⟨A, c, rfl⟩ := EK.row_slice hrow
  have HL := hide (show AllL S l from ⟨h1, h2⟩)
  clear hrow h1 h2
  go_wp2
  go_ret
  exact ⟨l, HL.out, rfl, hb⟩
def OfF (l : List Lse) (cl : Int) : List Lse := l.filter fun x => x.cli == cl
theorem ofF_succ {l : List Lse} {k : Nat} (cl : Int) (h : k < l.length) : OfF (l.take (k + 1)) cl = OfF (l.take k) cl ++ if l[k].cli == cl then [l[k]] else [] := by
  unfold OfF
  rw [List.take_add_one, List.getElem?_eq_getElem h, List.filter_append]
  congr 1
  by_cases hc : l[k].cli == cl <;> simp [hc]
def OfLs (w : World) (l : List Lse) (lv : Value) (cl : Int) (B : Nat) (wr : World) (ov iv : Value) : Prop :=
  ∃ k : Nat, iv = .int .i64 (k : Int) ∧ k ≤ l.length ∧ kR.row wr B lv l ∧ kR.row wr B ov (OfF (l.take k) cl) ∧ (∀ q, ov.ownBlock = some q → lv.ownBlock ≠ some q) ∧ Below w.heap.size w wr
end Go.Proofs.Ytpebilhdlblgoaa
