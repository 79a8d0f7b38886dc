/- Chapter 31, segment: Few, Same. -/
import Derived.Test.YtljmaicobafgkaaSeg15
import Derived.Test.YtljmaicobafgkaaPcs
namespace Go.Proofs.Ytljmaicobafgkaa
open Go.RowKit

theorem add_fld (a : Addr) (n j : Nat) (hj : 0 < j) : a.add (n + j) = ⟨(a.add n).block, (a.add n).off + j, none⟩ := by
  rw [← Go.Deep.add_add]
  generalize a.add n = b
  unfold Addr.add
  rw [if_neg (by omega)]
theorem PcArg.cells {w : World} {v : Value} {l : List Pc} (h : PcArg w v l) {k : Nat} (hk : k < l.length) : ∃ a cap, v = .slice (some a) l.length cap ∧ l.length ≤ cap ∧ cap ≤ maxLen ∧
    w.cell? (a.add (k * 4)) = some (.int .i64 l[k].kind) ∧ w.cell? ⟨(a.add (k * 4)).block, (a.add (k * 4)).off + 1, none⟩ = some (.int .i64 l[k].inode) ∧
    w.cell? ⟨(a.add (k * 4)).block, (a.add (k * 4)).off + 2, none⟩ = some (.int .i64 l[k].block) ∧ w.cell? ⟨(a.add (k * 4)).block, (a.add (k * 4)).off + 3, none⟩ = some (.string l[k].body) := by
  rcases h with ⟨rfl, rfl⟩ | ⟨a, cap, rfl, h1, h2, h3⟩
  · simp at hk
  · obtain ⟨c0, c1, c2, c3⟩ := h3 k hk
    rw [Nat.add_zero] at c0
    rw [add_fld _ _ _ (by decide)] at c1 c2 c3
    exact ⟨a, cap, rfl, h1, h2, c0, c1, c2, c3⟩
theorem PcArg.len {w : World} {v : Value} {l : List Pc} (h : PcArg w v l) : l.length ≤ maxLen := by
  rcases h with ⟨rfl, rfl⟩ | ⟨a, cap, rfl, h1, h2, h3⟩
  · simp
  · omega
def FewPost (w : World) (l : List Pc) (e : Ending) (w' : World) : Prop := (e = .returned (.int .i64 0) ∨ e = .returned (.int .i64 1) ∧ l.length ≤ 50 ∧ ∀ x ∈ l, x.body.size ≤ 70000) ∧ Below w.heap.size w w'
def FewS (w0 : World) (l : List Pc) (w : World) (i : Value) : Prop := ∃ k : Nat, i = .int .i64 k ∧ k ≤ l.length ∧ (∀ j (hj : j < l.length), j < k → l[j].body.size ≤ 70000) ∧ Below w0.heap.size w0 w
set_option maxHeartbeats 4000000 in
set_option maxRecDepth 100000 in
theorem few_any (v : Value) (l : List Pc) (w : World) (h : PcArg w v l) (hwf : ∀ x ∈ l, x.wf) : Calls Try.prog 51 #[v] w (FewPost w l) := by
  have hlen : l.length ≤ 9223372036854775807 := Nat.le_trans h.len (by decide)
  obtain ⟨A, c, hv⟩ := h.slice
  have H := hide h
  have HW := hide hwf
  subst hv
  clear h hwf
  rcases Nat.lt_or_ge 50 l.length with h50 | h50
  · go_enter Try.func51, Try.ntmps51
    go_wp2
    go_ret
    exact ⟨.inl rfl, Below.refl _ _⟩
  · have h50' : ¬ (50 : Int) < (l.length : Int) := by omega
    have HS : Hid (FewS w l w (.int .i64 0)) := hide ⟨0, rfl, Nat.zero_le _, fun j _ hj => absurd hj (Nat.not_lt_zero _), Below.refl _ _⟩
    go_enter Try.func51, Try.ntmps51
    go_wp2_with fail
    go_loopw [3] (fun i wr => FewS w l wr i) (fun i _ => l.length - (intOf i).toNat)
    case atStart => exact HS.out
    case round =>
      obtain ⟨k, rfl, hk, hq, hb⟩ := hrel
      have HQ := hide hq
      have HB := hide hb
      clear hq hb
      rcases Nat.lt_or_ge k l.length with hkl | hkl
      · obtain ⟨a, cap, hv, hc1, hc2, _, _, _, c3⟩ := (H.out.below HB.out).cells hkl
        cases hv
        have hz : l[k].body.size ≤ 9223372036854775807 := Nat.le_trans (HW.out l[k] (List.getElem_mem hkl)).2.2.2 (by decide)
        by_cases hbig : 70000 < l[k].body.size
        · have hbig' : (70000 : Int) < (l[k].body.size : Int) := by omega
          go_wp2
          go_ret
          exact ⟨.inl rfl, HB.out⟩
        · have hbig' : ¬ (70000 : Int) < (l[k].body.size : Int) := by omega
          have hst : FewS w l wr (.int .i64 ((k + 1 : Nat) : Int)) := ⟨k + 1, rfl, hkl, fun j hj hjk => by
            rcases Nat.lt_or_ge j k with h1 | h1
            · exact HQ.out j hj h1
            · obtain rfl : j = k := by omega
              omega, HB.out⟩
          have HST := hide hst
          clear hst
          go_wp2
          go_roundw
          case rel => exact HST.out
          case measure => simp [intOf]; omega
      · obtain rfl : k = l.length := by omega
        go_wp2
        go_ret
        refine ⟨.inr ⟨rfl, h50, fun x hx => ?_⟩, HB.out⟩
        obtain ⟨j, hj, rfl⟩ := List.getElem_of_mem hx
        exact HQ.out j hj hj
def SameS (w0 : World) (n : Nat) (w : World) (i : Value) : Prop := ∃ k : Nat, i = .int .i64 k ∧ k ≤ n ∧ Below w0.heap.size w0 w
set_option maxHeartbeats 4000000 in
set_option maxRecDepth 100000 in
theorem same_yes (u v : Value) (B B' : Nat) (l : List Ent) (w : World) (hl : l.length ≤ 1048576) (hu : OwE w B u l) (hv : OwE w B' v l) : Calls Try.prog 63 #[u, v] w fun e w' => e = .returned (.bool true) ∧ Below w.heap.size w w' := by
  obtain ⟨A, c, rfl⟩ := row_slice hu
  obtain ⟨A', c', rfl⟩ := row_slice hv
  have HU := hide hu
  have HV := hide hv
  clear hu hv
  have HS : Hid (SameS w l.length w (.int .i64 0)) := hide ⟨0, rfl, Nat.zero_le _, Below.refl _ _⟩
  go_enter Try.func63, Try.ntmps63
  go_wp2_with fail
  go_loopw [5] (fun i wr => SameS w l.length wr i) (fun i _ => l.length - (intOf i).toNat)
  case atStart => exact HS.out
  case round =>
    obtain ⟨k, rfl, hk, hb⟩ := hrel
    have HB := hide hb
    clear hb
    rcases Nat.lt_or_ge k l.length with hkl | hkl
    · obtain ⟨g1, c1, e1, _, _, hc1, hcell1⟩ := ent_cells (row_below HU.out HB.out) hkl
      obtain ⟨g2, c2, e2, _, _, hc2, hcell2⟩ := ent_cells (row_below HV.out HB.out) hkl
      cases e1
      cases e2
      have a0 := hcell1 0 (by decide)
      have a1 := hcell1 1 (by decide)
      have a2 := hcell1 2 (by decide)
      have a3 := hcell1 3 (by decide)
      have a4 := hcell1 4 (by decide)
      have b0 := hcell2 0 (by decide)
      have b1 := hcell2 1 (by decide)
      have b2 := hcell2 2 (by decide)
      have b3 := hcell2 3 (by decide)
      have b4 := hcell2 4 (by decide)
      simp only [Ent.cells, List.getElem?_cons_zero, List.getElem?_cons_succ, Nat.add_zero] at a0 a1 a2 a3 a4 b0 b1 b2 b3 b4
      clear hcell1 hcell2
      go_wp2_with fail
      go_quiet (skip)
      go_wp2
      go_roundw
      case rel => exact ⟨k + 1, rfl, hkl, below_drewN HB.out _⟩
      case measure => simp [intOf]; omega
    · obtain rfl : k = l.length := by omega
      go_wp2
      go_ret
      exact ⟨rfl, HB.out⟩
theorem addL_len (size : Int) (l : List Pc) (x : Pc) : (addL size l x).length ≤ l.length + 1 := by
  unfold addL
  split <;> simp
end Go.Proofs.Ytljmaicobafgkaa
