/- A join of 3 texts of this claim: Seg17, Ck8, Ck9. Conditions: none of their own. -/
import Derived.Test.YtljmaicobafgkaaQ18
import Derived.Test.YtljmaicobafgkaaQ13
section
/- Chapter 31, segment: Few, Same. -/
namespace Go.Proofs.Ytljmaicobafgkaa
open Go.RowKit

theorem add_fld (a : Addr) (n j : Nat) (hj : 0 < j) : a.add (n + j) = ⟨(a.add n).block, (a.add n).off + j, none⟩ := by
  rw [← Go.Deep.add_add]
  generalize a.add n = b
  unfold Addr.add
  rw [if_neg (by omega)]
theorem PcArg.cells {w : World} {v : Value} {l : List Pc} (h : PcArg w v l) {k : Nat} (hk : k < l.length) : ∃ a cap, v = .slice (some a) l.length cap ∧ l.length ≤ cap ∧ cap ≤ maxLen ∧
    w.cell? (a.add (k * 4)) = some (.int .i64 l[k].kind) ∧ w.cell? ⟨(a.add (k * 4)).block, (a.add (k * 4)).off + 1, none⟩ = some (.int .i64 l[k].inode) ∧
    w.cell? ⟨(a.add (k * 4)).block, (a.add (k * 4)).off + 2, none⟩ = some (.int .i64 l[k].block) ∧ w.cell? ⟨(a.add (k * 4)).block, (a.add (k * 4)).off + 3, none⟩ = some (.string l[k].body) := by
  rcases h with ⟨rfl, rfl⟩ | ⟨a, cap, rfl, h1, h2, h3⟩
  · simp at hk
  · obtain ⟨c0, c1, c2, c3⟩ := h3 k hk
    rw [Nat.add_zero] at c0
    rw [add_fld _ _ _ (by decide)] at c1 c2 c3
    exact ⟨a, cap, rfl, h1, h2, c0, c1, c2, c3⟩
theorem PcArg.len {w : World} {v : Value} {l : List Pc} (h : PcArg w v l) : l.length ≤ maxLen := by
  rcases h with ⟨rfl, rfl⟩ | ⟨a, cap, rfl, h1, h2, h3⟩
  · simp
  · omega
def FewPost (w : World) (l : List Pc) (e : Ending) (w' : World) : Prop := (e = .returned (.int .i64 0) ∨ e = .returned (.int .i64 1) ∧ l.length ≤ 50 ∧ ∀ x ∈ l, x.body.size ≤ 70000) ∧ Below w.heap.size w w'
def FewS (w0 : World) (l : List Pc) (w : World) (i : Value) : Prop := ∃ k : Nat, i = .int .i64 k ∧ k ≤ l.length ∧ (∀ j (hj : j < l.length), j < k → l[j].body.size ≤ 70000) ∧ Below w0.heap.size w0 w
set_option maxHeartbeats 4000000 in
set_option maxRecDepth 100000 in
theorem few_any (v : Value) (l : List Pc) (w : World) (h : PcArg w v l) (hwf : ∀ x ∈ l, x.wf) : Calls Try.prog 51 #[v] w (FewPost w l) := by
  have hlen : l.length ≤ 9223372036854775807 := Nat.le_trans h.len (by decide)
  obtain ⟨A, c, hv⟩ := h.slice
  have H := hide h
  have HW := hide hwf
  subst hv
  clear h hwf
  rcases Nat.lt_or_ge 50 l.length with h50 | h50
  · go_enter Try.func51, Try.ntmps51
    go_wp2
    go_ret
    exact ⟨.inl rfl, Below.refl _ _⟩
  · have h50' : ¬ (50 : Int) < (l.length : Int) := by omega
    have HS : Hid (FewS w l w (.int .i64 0)) := hide ⟨0, rfl, Nat.zero_le _, fun j _ hj => absurd hj (Nat.not_lt_zero _), Below.refl _ _⟩
    go_enter Try.func51, Try.ntmps51
    go_wp2_with fail
    go_loopw [3] (fun i wr => FewS w l wr i) (fun i _ => l.length - (intOf i).toNat)
    case atStart => exact HS.out
    case round =>
      obtain ⟨k, rfl, hk, hq, hb⟩ := hrel
      have HQ := hide hq
      have HB := hide hb
      clear hq hb
      rcases Nat.lt_or_ge k l.length with hkl | hkl
      · obtain ⟨a, cap, hv, hc1, hc2, _, _, _, c3⟩ := (H.out.below HB.out).cells hkl
        cases hv
        have hz : l[k].body.size ≤ 9223372036854775807 := Nat.le_trans (HW.out l[k] (List.getElem_mem hkl)).2.2.2 (by decide)
        by_cases hbig : 70000 < l[k].body.size
        · have hbig' : (70000 : Int) < (l[k].body.size : Int) := by omega
          go_wp2
          go_ret
          exact ⟨.inl rfl, HB.out⟩
        · have hbig' : ¬ (70000 : Int) < (l[k].body.size : Int) := by omega
          have hst : FewS w l wr (.int .i64 ((k + 1 : Nat) : Int)) := ⟨k + 1, rfl, hkl, fun j hj hjk => by
            rcases Nat.lt_or_ge j k with h1 | h1
            · exact HQ.out j hj h1
            · obtain rfl : j = k := by omega
              omega, HB.out⟩
          have HST := hide hst
          clear hst
          go_wp2
          go_roundw
          case rel => exact HST.out
          case measure => simp [intOf]; omega
      · obtain rfl : k = l.length := by omega
        go_wp2
        go_ret
        refine ⟨.inr ⟨rfl, h50, fun x hx => ?_⟩, HB.out⟩
        obtain ⟨j, hj, rfl⟩ := List.getElem_of_mem hx
        exact HQ.out j hj hj
def SameS (w0 : World) (n : Nat) (w : World) (i : Value) : Prop := ∃ k : Nat, i = .int .i64 k ∧ k ≤ n ∧ Below w0.heap.size w0 w
set_option maxHeartbeats 4000000 in
set_option maxRecDepth 100000 in
theorem same_yes (u v : Value) (B B' : Nat) (l : List Ent) (w : World) (hl : l.length ≤ 1048576) (hu : OwE w B u l) (hv : OwE w B' v l) : Calls Try.prog 63 #[u, v] w fun e w' => e = .returned (.bool true) ∧ Below w.heap.size w w' := by
  obtain ⟨A, c, rfl⟩ := row_slice hu
  obtain ⟨A', c', rfl⟩ := row_slice hv
  have HU := hide hu
  have HV := hide hv
  clear hu hv
  have HS : Hid (SameS w l.length w (.int .i64 0)) := hide ⟨0, rfl, Nat.zero_le _, Below.refl _ _⟩
  go_enter Try.func63, Try.ntmps63
  go_wp2_with fail
  go_loopw [5] (fun i wr => SameS w l.length wr i) (fun i _ => l.length - (intOf i).toNat)
  case atStart => exact HS.out
  case round =>
    obtain ⟨k, rfl, hk, hb⟩ := hrel
    have HB := hide hb
    clear hb
    rcases Nat.lt_or_ge k l.length with hkl | hkl
    · obtain ⟨g1, c1, e1, _, _, hc1, hcell1⟩ := ent_cells (row_below HU.out HB.out) hkl
      obtain ⟨g2, c2, e2, _, _, hc2, hcell2⟩ := ent_cells (row_below HV.out HB.out) hkl
      cases e1
      cases e2
      have a0 := hcell1 0 (by decide)
      have a1 := hcell1 1 (by decide)
      have a2 := hcell1 2 (by decide)
      have a3 := hcell1 3 (by decide)
      have a4 := hcell1 4 (by decide)
      have b0 := hcell2 0 (by decide)
      have b1 := hcell2 1 (by decide)
      have b2 := hcell2 2 (by decide)
      have b3 := hcell2 3 (by decide)
      have b4 := hcell2 4 (by decide)
      simp only [Ent.cells, List.getElem?_cons_zero, List.getElem?_cons_succ, Nat.add_zero] at a0 a1 a2 a3 a4 b0 b1 b2 b3 b4
      clear hcell1 hcell2
      go_wp2_with fail
      go_quiet (skip)
      go_wp2
      go_roundw
      case rel => exact ⟨k + 1, rfl, hkl, below_drewN HB.out _⟩
      case measure => simp [intOf]; omega
    · obtain rfl : k = l.length := by omega
      go_wp2
      go_ret
      exact ⟨rfl, HB.out⟩
theorem addL_len (size : Int) (l : List Pc) (x : Pc) : (addL size l x).length ≤ l.length + 1 := by
  unfold addL
  split <;> simp
end Go.Proofs.Ytljmaicobafgkaa
end
section
/- Chapter 41, ckpt: Texts, few, the reference's Parts. -/
namespace Go.Proofs.Ytljmaicobafgkaa
open Go.RowKit

set_option maxHeartbeats 4000000 in
set_option maxRecDepth 100000 in
theorem texts_yes (u v : Value) (l : List ByteArray) (w : World) (hu : StrArg w u l) (hv : StrArg w v l) : Calls Try.prog 85 #[u, v] w fun e w' => e = .returned (.bool true) ∧ Below w.heap.size w w' := by
  have hlen : l.length ≤ 9223372036854775807 := Nat.le_trans hu.len (by decide)
  obtain ⟨A, c, eu⟩ := hu.slice
  obtain ⟨A', c', ev⟩ := hv.slice
  subst eu ev
  have HU := hide hu
  have HV := hide hv
  clear hu hv
  have HS : Hid (SameS w l.length w (.int .i64 0)) := hide ⟨0, rfl, Nat.zero_le _, Below.refl _ _⟩
  go_enter Try.func85, Try.ntmps85
  go_wp2_with fail
  go_loopw [5] (fun i wr => SameS w l.length wr i) (fun i _ => l.length - (intOf i).toNat)
  case atStart => exact HS.out
  case round =>
    obtain ⟨k, rfl, hk, hb⟩ := hrel
    have HB := hide hb
    clear hb
    rcases Nat.lt_or_ge k l.length with hkl | hkl
    · obtain ⟨a1, c1, e1, _, hc1, d1⟩ := (HU.out.below HB.out).cell hkl
      obtain ⟨a2, c2, e2, _, hc2, d2⟩ := (HV.out.below HB.out).cell hkl
      cases e1
      cases e2
      generalize l[k] = p at d1 d2
      go_wp2_with fail
      go_quiet (skip)
      go_wp2
      go_roundw
      case rel => exact ⟨k + 1, rfl, hkl, below_drewN HB.out _⟩
      case measure => simp [intOf]; omega
    · obtain rfl : k = l.length := by omega
      go_wp2
      go_ret
      exact ⟨rfl, HB.out⟩
set_option maxHeartbeats 4000000 in
set_option maxRecDepth 100000 in
theorem few41 (v : Value) (l : List ByteArray) (w : World) (h : StrArg w v l) (hwf : ∀ x ∈ l, x.size ≤ maxLen) : Calls Try.prog 88 #[v] w fun e w' => (e = .returned (.bool false) ∨ e = .returned (.bool true)) ∧ Below w.heap.size w w' := by
  have hlen : l.length ≤ 9223372036854775807 := Nat.le_trans h.len (by decide)
  obtain ⟨A, c, hv⟩ := h.slice
  have H := hide h
  have HW := hide hwf
  subst hv
  clear h hwf
  rcases Nat.lt_or_ge 1100 l.length with h50 | h50
  · go_enter Try.func88, Try.ntmps88
    go_wp2
    go_ret
    exact ⟨.inl rfl, Below.refl _ _⟩
  · have h50' : ¬ (1100 : Int) < (l.length : Int) := by omega
    have HS : Hid (SameS w l.length w (.int .i64 0)) := hide ⟨0, rfl, Nat.zero_le _, Below.refl _ _⟩
    go_enter Try.func88, Try.ntmps88
    go_wp2_with fail
    go_loopw [3] (fun i wr => SameS w l.length wr i) (fun i _ => l.length - (intOf i).toNat)
    case atStart => exact HS.out
    case round =>
      obtain ⟨k, rfl, hk, hb⟩ := hrel
      have HB := hide hb
      clear hb
      rcases Nat.lt_or_ge k l.length with hkl | hkl
      · obtain ⟨a, cap, hv, hc1, hc2, c3⟩ := (H.out.below HB.out).cell hkl
        cases hv
        have hz : l[k].size ≤ 9223372036854775807 := Nat.le_trans (HW.out l[k] (List.getElem_mem hkl)) (by decide)
        by_cases hbig : 2000 < l[k].size
        · have hbig' : (2000 : Int) < (l[k].size : Int) := by omega
          go_wp2
          go_ret
          exact ⟨.inl rfl, HB.out⟩
        · have hbig' : ¬ (2000 : Int) < (l[k].size : Int) := by omega
          have HST : Hid (SameS w l.length wr (.int .i64 ((k + 1 : Nat) : Int))) := hide ⟨k + 1, rfl, hkl, HB.out⟩
          by_cases h60 : 60 < k
          · have h60' : (60 : Int) < (k : Int) := by omega
            by_cases h10 : 10 < l[k].size
            · have h10' : (10 : Int) < (l[k].size : Int) := by omega
              go_wp2
              go_ret
              exact ⟨.inl rfl, HB.out⟩
            · have h10' : ¬ (10 : Int) < (l[k].size : Int) := by omega
              go_wp2
              go_roundw
              case rel => exact HST.out
              case measure => simp [intOf]; omega
          · have h60' : ¬ (60 : Int) < (k : Int) := by omega
            go_wp2
            go_roundw
            case rel => exact HST.out
            case measure => simp [intOf]; omega
      · obtain rfl : k = l.length := by omega
        go_wp2
        go_ret
        exact ⟨.inr rfl, HB.out⟩
theorem partAt_ext (s : ByteArray) (m k p : Nat) (hp : p = k * m) : s.extract p (p + m) = partAt s m k := by
  subst hp
  rw [extract_str, Nat.add_sub_cancel_left]
  rfl
theorem partAt_end (s : ByteArray) (m k p : Nat) (hp : p = k * m) (h : s.size ≤ p + m) : s.extract p s.size = partAt s m k := by
  subst hp
  rw [extract_str]
  unfold partAt
  rw [List.take_of_length_le (by rw [List.length_drop, ← size_list]; omega), List.take_of_length_le (by rw [List.length_drop, ← size_list]; omega)]
/-- What Parts gives. -/
def PtOut (s : ByteArray) (most : Int) (w : World) (e : Ending) (w' : World) : Prop :=
  if most < 1 ∨ 65536 < most then e = .returned (.tuple #[.slice none 0 0, .int .i64 1])
  else if 255 * most < s.size then e = .returned (.tuple #[.slice none 0 0, .int .i64 2])
  else ∃ v n, PartsN s.size most.toNat n ∧ e = .returned (.tuple #[v, .int .i64 0]) ∧ OwS w' w.heap.size v (partsUp s most.toNat n)
def PtR (w0 : World) (s : ByteArray) (m : Nat) (w : World) (ov iv : Value) : Prop :=
  ∃ k p : Nat, iv = .int .i64 p ∧ p = k * m ∧ OwS w w0.heap.size ov (partsUp s m k) ∧ (k ≤ 1 ∨ (k - 1) * m < s.size) ∧ Below w0.heap.size w0 w
theorem ptK {z m k : Nat} (_hm : 1 ≤ m) (hz : z ≤ 255 * m) (h : k ≤ 1 ∨ (k - 1) * m < z) : k ≤ 255 := by
  rcases h with h | h
  · omega
  · by_cases hn : k ≤ 255
    · exact hn
    · have := Nat.mul_le_mul_right m (show 255 ≤ k - 1 by omega)
      omega
set_option maxHeartbeats 4000000 in
set_option maxRecDepth 100000 in
theorem rparts_any (s : ByteArray) (most : Int) (w : World) (hs : s.size ≤ 4611686018427387904) : Calls Try.prog 84 #[.string s, .int .i64 most] w fun e w' => PtOut s most w e w' ∧ Below w.heap.size w w' := by
  by_cases h0 : most < 1
  · go_enter Try.func84, Try.ntmps84
    go_wp2
    go_ret2
    exact ⟨by unfold PtOut; rw [if_pos (.inl h0)]; rfl, Below.refl _ _⟩
  by_cases h1 : 65536 < most
  · go_enter Try.func84, Try.ntmps84
    go_wp2
    go_ret2
    exact ⟨by unfold PtOut; rw [if_pos (.inr h1)]; rfl, Below.refl _ _⟩
  have hn1 : ¬ (most < 1 ∨ 65536 < most) := by omega
  by_cases h2 : 255 * most < s.size
  · go_enter Try.func84, Try.ntmps84
    go_wp2
    go_ret2
    exact ⟨by unfold PtOut; rw [if_neg hn1, if_pos h2]; rfl, Below.refl _ _⟩
  obtain ⟨m, rfl⟩ : ∃ m : Nat, most = m := ⟨most.toNat, by omega⟩
  have hm1 : 1 ≤ m := by omega
  have hz : s.size ≤ 255 * m := by omega
  have HN := hide (And.intro hn1 h2)
  have HST : Hid (PtR w s m w (.slice none 0 0) (.int .i64 0)) := hide ⟨0, 0, rfl, by simp, World.ownsRow_nil _ _ _ _, .inl (by omega), Below.refl _ _⟩
  go_enter Try.func84, Try.ntmps84
  go_wp2_with fail
  go_loopw [6, 7] (fun ov iv wr => PtR w s m wr ov iv) (fun _ i _ => s.size + m + 1 - (intOf i).toNat)
  case atStart => exact HST.out
  case round =>
    obtain ⟨k, p, rfl, hp, hO, hk, hb⟩ := hrel
    have hk255 := ptK hm1 hz hk
    obtain ⟨A, c, rfl⟩ := row_slice hO
    rw [partsUp_len] at hO ⊢
    have HO := hide hO
    have HB := hide hb
    have HP := hide hp
    have HKK := hide hk
    have hp0 : p = 0 ∨ m ≤ p := by
      rcases Nat.eq_zero_or_pos k with rfl | h
      · left; omega
      · right
        have := Nat.mul_le_mul_right m h
        omega
    have hpk : k = 0 → p = 0 := by rintro rfl; omega
    have hpz : p ≤ 16711935 := by have := Nat.mul_le_mul hk255 (show m ≤ 65536 by omega); omega
    clear hO hb hp hk
    by_cases hlt : p < s.size ∨ p = 0
    · obtain ⟨v', w6, hrun, hO6, hf6⟩ := app_sx (w := wr.alloc (.cells #[.string (partAt s m k)] 9)) (row_below HO.out ((Below.refl _ _).alloc (Nat.le_refl _) _)) (partAt s m k) (g' := wr.heap.size) (obj_new _ _) (by rw [partsUp_len]; omega) (by have := HB.out.size; simp; omega) 135
      obtain ⟨A6, m6, rfl⟩ := row_slice hO6
      have hl6 : (partsUp s m k ++ [partAt s m k]).length = k + 1 := by rw [List.length_append, partsUp_len]; rfl
      rw [hl6] at hrun hO6
      rw [← partsUp_succ] at hO6
      have HST2 : Hid (PtR w s m w6 (.slice A6 (k + 1) m6) (.int .i64 ((p + m : Nat) : Int))) := hide ⟨k + 1, p + m, rfl, by rw [HP.out, Nat.succ_mul], hO6, by
          rcases hlt with h | h
          · right; rw [Nat.add_sub_cancel, ← HP.out]; exact h
          · left
            rcases Nat.eq_zero_or_pos k with rfl | h'
            · omega
            · have := Nat.mul_le_mul_right m h'
              have := HP.out
              omega, (HB.out.alloc HB.out.size _).trans (hf6.below _ (by have := HB.out.size; simp; omega) (fun j hj h => by
          have := (row_typed HO.out h).1
          omega))⟩
      clear hO6 hf6 hl6 hpk hp0
      have hme : p + m ≤ s.size ∧ s.extract p (p + m) = partAt s m k ∨ s.size < p + m ∧ s.extract p s.size = partAt s m k := by
        rcases Nat.lt_or_ge s.size (p + m) with h | h
        · exact .inr ⟨h, partAt_end s m k p HP.out (by omega)⟩
        · exact .inl ⟨h, partAt_ext s m k p HP.out⟩
      have hor : (p : Int) < (s.size : Int) ∨ ¬ (p : Int) < (s.size : Int) ∧ p = 0 := by omega
      rcases hme with ⟨hm1', he⟩ | ⟨hm1', he⟩
      · have hmi : ¬ (s.size : Int) < (p : Int) + (m : Int) := by omega
        have hsl : ∀ W, (Instr.slice 9 (.string s) (some (.int .i64 p)) (some (.int .i64 ((p : Int) + (m : Int)))) none).run Try.prog W = .ok (.string (partAt s m k)) W := fun W => by
          rw [run_slice_string W 9 s .i64 .i64 _ _ Try.underlying9 (by omega) (by omega) (by omega), show ((p : Int) + (m : Int)).toNat = p + m from by omega, Int.toNat_natCast, he]
        rcases hor with hl1 | ⟨hl1, rfl⟩
        · go_wp2_with (at_builtin; refine wpList_append_run rfl (.tmp 30) (.tmp 40) 135 135 rfl rfl rfl hrun ?_)
          go_wp2
          go_roundw
          case rel => exact HST2.out
          case measure => simp [intOf]; omega
        · exfalso; omega
      · have hmi : (s.size : Int) < (p : Int) + (m : Int) := by omega
        have hsl : ∀ W, (Instr.slice 9 (.string s) (some (.int .i64 p)) (some (.int .i64 (s.size : Int))) none).run Try.prog W = .ok (.string (partAt s m k)) W := fun W => by
          rw [run_slice_string W 9 s .i64 .i64 _ _ Try.underlying9 (by omega) (by omega) (by omega), Int.toNat_natCast, Int.toNat_natCast, he]
        rcases hor with hl1 | ⟨hl1, rfl⟩
        · go_wp2_with (at_builtin; refine wpList_append_run rfl (.tmp 30) (.tmp 40) 135 135 rfl rfl rfl hrun ?_)
          go_wp2
          go_roundw
          case rel => exact HST2.out
          case measure => simp [intOf]; omega
        · have hz0 : s.size = 0 := by omega
          obtain rfl : s = ByteArray.empty := ByteArray.size_eq_zero_iff.1 hz0
          have hmi' : (0 : Int) < (m : Int) := by omega
          rw [show partAt ByteArray.empty m k = ByteArray.empty from by unfold partAt; simp; rfl] at hrun
          clear hsl hmi hl1 hz0 he hm1'
          go_wp2_with (at_builtin; refine wpList_append_run rfl (.tmp 30) (.tmp 40) 135 135 rfl rfl rfl hrun ?_)
          go_wp2
          go_roundw
          case rel =>
            have h := HST2.out
            rw [Nat.zero_add] at h
            exact h
          case measure => simp [intOf]; omega
    · have HPN : Hid (PartsN s.size m k) := hide ⟨by
          rcases Nat.eq_zero_or_pos k with rfl | h
          · exact absurd (.inr (hpk rfl)) hlt
          · exact h, by rw [← HP.out]; omega, by
          rcases HKK.out with h | h
          · left
            rcases Nat.eq_zero_or_pos k with rfl | h'
            · exact absurd (.inr (hpk rfl)) hlt
            · omega
          · exact .inr h⟩
      have hl1 : ¬ (p : Int) < (s.size : Int) := by omega
      have hl2 : ¬ (p : Int) = 0 := by omega
      clear hlt hpk
      go_wp2
      go_ret2
      refine ⟨?_, HB.out⟩
      unfold PtOut
      rw [if_neg (by have := HN.out.1; omega), if_neg (by have := HN.out.2; omega)]
      exact ⟨_, k, HPN.out, rfl, HO.out⟩
end Go.Proofs.Ytljmaicobafgkaa
end
section
/- Chapter 41, ckpt: Parts. -/
namespace Go.Proofs.Ytljmaicobafgkaa
open Go.RowKit

theorem byteVals_part (l : List UInt8) (p n j : Nat) (hj : j < n) : (byteVals ((l.drop p).take n))[j]? = (byteVals l)[p + j]? := by
  simp only [byteVals, List.getElem?_map, List.getElem?_take_of_lt hj, List.getElem?_drop]
theorem Buf.conv_at {w : World} {g : Nat} {l : List UInt8} (h : Buf w g l) (p n c : Nat) (hpn : p + n ≤ l.length) : (convert 77 9 (.slice (some ⟨g, p, none⟩) n c)).run Try.prog w = .ok (.string ⟨((l.drop p).take n).toArray⟩) w := by
  obtain ⟨cs, k, hh, hl, _, hc⟩ := h
  refine conv_str ((l.drop p).take n) (by rw [List.length_take, List.length_drop]; omega) (fun ad e j u hu => ?_) (fun e => by cases e)
  cases e
  rw [add_plain', obj_cell hh]
  have hj : j < n := by
    have := (List.getElem?_eq_some_iff.1 hu).1
    rw [byteVals_length, List.length_take] at this
    omega
  rw [byteVals_part l p n j hj] at hu
  exact hc _ u hu
theorem Buf.keep {w w' : World} {g : Nat} {l : List UInt8} (h : Buf w g l) (hw : ∀ o, w.heap[g]? = some o → w'.heap[g]? = some o) : Buf w' g l := by
  obtain ⟨cs, k, hh, r⟩ := h
  exact ⟨cs, k, hw _ hh, r⟩
def PtS (w0 : World) (s : ByteArray) (m : Nat) (w : World) (bv ov : Value) : Prop :=
  ∃ k p c : Nat, bv = .slice (some ⟨w0.heap.size, p, none⟩) (s.size - p) c ∧ s.size - p ≤ c ∧ p = k * m ∧ (k = 0 ∨ p < s.size) ∧ OwS w (w0.heap.size + 1) ov (partsUp s m k) ∧ Buf w w0.heap.size s.data.toList ∧ Below w0.heap.size w0 w
set_option maxHeartbeats 4000000 in
set_option maxRecDepth 100000 in
theorem parts41_any (s : ByteArray) (most : Int) (w : World) (hs : s.size ≤ 4611686018427387904) : Calls Try.prog 83 #[.string s, .int .i64 most] w fun e w' => PtOut s most w e w' ∧ Below w.heap.size w w' := by
  by_cases h0 : most < 1
  · go_enter Try.func83, Try.ntmps83
    go_wp2
    go_ret2
    exact ⟨by unfold PtOut; rw [if_pos (.inl h0)]; rfl, Below.refl _ _⟩
  by_cases h1 : 65536 < most
  · go_enter Try.func83, Try.ntmps83
    go_wp2
    go_ret2
    exact ⟨by unfold PtOut; rw [if_pos (.inr h1)]; rfl, Below.refl _ _⟩
  have hn1 : ¬ (most < 1 ∨ 65536 < most) := by omega
  by_cases h2 : 255 * most < s.size
  · go_enter Try.func83, Try.ntmps83
    go_wp2
    go_ret2
    exact ⟨by unfold PtOut; rw [if_neg hn1, if_pos h2]; rfl, Below.refl _ _⟩
  obtain ⟨m, rfl⟩ : ∃ m : Nat, most = m := ⟨most.toNat, by omega⟩
  have hm1 : 1 ≤ m := by omega
  have hz : s.size ≤ 255 * m := by omega
  have HN := hide (And.intro hn1 h2)
  have hcv := conv_to w s
  obtain ⟨c0, hc0⟩ : ∃ c0, c0 = grownCap w s.size 0 5 := ⟨_, rfl⟩
  have hcle : s.size ≤ c0 := by rw [hc0]; exact grownCap_ge _ _ _ _
  rw [← hc0] at hcv
  have HST : Hid (PtS w s m (Lib.bytesWorld w 5 s) (.slice (some ⟨w.heap.size, 0, none⟩) s.size c0) (.slice none 0 0)) := hide ⟨0, 0, c0, rfl, by omega, by simp, .inl rfl, World.ownsRow_nil _ _ _ _, buf_new _ _, buf_below _ _ (Nat.le_refl _)⟩
  clear hc0
  go_enter Try.func83, Try.ntmps83
  go_wp2_with fail
  clear hcv
  go_loopw [6, 7] (fun bv ov wr => PtS w s m wr bv ov) (fun bv _ _ => match bv with | .slice _ n _ => n | _ => 0)
  case atStart => exact HST.out
  case round =>
    obtain ⟨k, p, c, rfl, hpc, hp, hk, hO, hB, hb⟩ := hrel
    obtain ⟨A, c', rfl⟩ := row_slice hO
    rw [partsUp_len] at hO ⊢
    have HO := hide hO
    have HB := hide hb
    have HP := hide hp
    have HBF := hide hB
    have hk255 : k ≤ 255 := by
      rcases hk with rfl | h
      · omega
      · by_cases hn : k ≤ 255
        · exact hn
        · have := Nat.mul_le_mul_right m (show 255 ≤ k by omega)
          omega
    have hps : p ≤ s.size := by
      rcases hk with rfl | h
      · omega
      · omega
    have hW : w.heap.size + 1 ≤ wr.heap.size := by
      obtain ⟨cs, q, hh, _⟩ := hB
      exact obj_lt hh
    have HKK := hide hk
    obtain ⟨v', w6, hrun, hO6, hf6⟩ := app_sx (w := wr.alloc (.cells #[.string (partAt s m k)] 9)) (row_below HO.out ((Below.refl _ _).alloc (Nat.le_refl _) _)) (partAt s m k) (g' := wr.heap.size) (obj_new _ _) (by rw [partsUp_len]; omega) (by simp; omega) 135
    obtain ⟨A6, m6, rfl⟩ := row_slice hO6
    have hl6 : (partsUp s m k ++ [partAt s m k]).length = k + 1 := by rw [List.length_append, partsUp_len]; rfl
    rw [hl6] at hrun hO6
    rw [← partsUp_succ] at hO6
    have hlow : Below w.heap.size w w6 := (HB.out.alloc HB.out.size _).trans (hf6.below _ (by simp; omega) (fun j hj h => by
          have := (row_typed HO.out h).1
          omega))
    have HLOW := hide hlow
    have HO6 := hide hO6
    have HF6 := hide hf6
    clear hO6 hf6 hl6 hO hb hp hB hk hlow
    by_cases hlt : m < s.size - p
    · have hcv := HBF.out.conv_at p m m (by rw [← size_list]; omega)
      have HST2 : Hid (PtS w s m w6 (.slice (some ⟨w.heap.size, p + m, none⟩) (s.size - (p + m)) (c - m)) (.slice A6 (k + 1) m6)) := hide ⟨k + 1, p + m, c - m, rfl, by omega, by rw [HP.out, Nat.succ_mul], .inr (by omega), HO6.out, HBF.out.keep (fun o ho => HF6.out.obj (obj_alloc ho _) (fun h => by
          have := (row_typed HO.out h).1
          omega)), HLOW.out⟩
      have hlt' : (m : Int) < ((s.size - p : Nat) : Int) := by omega
      rw [show (⟨((s.data.toList.drop p).take m).toArray⟩ : ByteArray) = partAt s m k from by rw [HP.out]; rfl] at hcv
      go_wp2_with (at_builtin; refine wpList_append_run rfl (.tmp 32) (.tmp 35) 135 135 rfl rfl rfl hrun ?_)
      rw [Nat.sub_sub]
      exact ⟨HST2.out, by show s.size - (p + m) < s.size - p; omega⟩
    · have hcv := HBF.out.conv_at p (s.size - p) c (by rw [← size_list]; omega)
      have HPN : Hid (PartsN s.size m (k + 1)) := hide ⟨by omega, by have := HP.out; rw [Nat.succ_mul]; omega, by
          rcases HKK.out with h | h
          · left; omega
          · right; rw [Nat.add_sub_cancel, ← HP.out]; exact h⟩
      have hlt' : ¬ (m : Int) < ((s.size - p : Nat) : Int) := by omega
      rw [show (⟨((s.data.toList.drop p).take (s.size - p)).toArray⟩ : ByteArray) = partAt s m k from by rw [← partAt_end s m k p HP.out (by omega), extract_str]] at hcv
      clear hlt
      go_wp2_with (at_builtin; refine wpList_append_run rfl (.tmp 40) (.tmp 43) 135 135 rfl rfl rfl hrun ?_)
      refine bodyPost_ret (results_tmp2 rfl _ _ _) rfl ?_
      refine ⟨?_, HLOW.out⟩
      unfold PtOut
      rw [if_neg (by have := HN.out.1; omega), if_neg (by have := HN.out.2; omega)]
      exact ⟨_, k + 1, HPN.out, rfl, ows_base (show OwS _ _ _ _ from HO6.out) (Nat.le_succ _)⟩
end Go.Proofs.Ytljmaicobafgkaa
end
