/- A join of 2 texts of this claim: Im8, ImL. Conditions: none of their own. -/
import Derived.Test.YtljmaicobafgkaaK11
import Derived.Test.YtljmaicobafgkaaK14
import Derived.Test.YtljmaicobafgkaaK10
section
/- Chapter 25, imap: what is none; Free, Ints, New. -/
namespace Go.Proofs.Ytljmaicobafgkaa
open Go.RowKit Go.Shelf
section
attribute [local go_sem] Oper.semAt_some
set_option maxRecDepth 100000 in
set_option maxHeartbeats 1000000 in
theorem each1N_in (F : Fence) (n : Nat) (h160 : F.fn 160) (hro : F.round = none) (l Bm : Nat) (J : List (Nat × Spot) → World → Prop)
    (W : World) (hBm : W.cell? ⟨Bm, 0, none⟩ = some (.pointer none)) (h0 : J [] W) :
    CallsIn F n Try.prog 160 #[.func (.yield l) #[] #[], .pointer (some ⟨Bm, 0, none⟩)] W fun e W' => (∃ v, e = .returned v) ∧ J [] W' := by
  refine callsIn_of_wp Try.func160 rfl h160 ?_ hro
  simp only [Try.ntmps160, List.size_toArray, List.length_cons, List.length_nil, Nat.reduceAdd, Nat.reduceSub, Array.replicate_succ, Array.replicate_zero, List.push_toArray, List.append_toArray, List.nil_append, List.cons_append]
  gi_wp2
  refine bodyPost_ret (results_none rfl _ _ _) rfl ?_
  exact ⟨⟨_, rfl⟩, h0⟩
theorem eachN_stops (F : Fence) (n : Nat) (h160 : F.fn 160) (hro : F.round = none) (Bm n₀ : Nat) (w : World) (hBm : Bm < w.heap.size)
    (hc : w.cell? ⟨Bm, 0, none⟩ = some (.pointer none)) :
    SeqStopsK F n Try.prog 160 #[.pointer (some ⟨Bm, 0, none⟩)] encP (Below n₀) (fun ys => ys = ([] : List (Nat × Spot))) (fun pre => pre <+: ([] : List (Nat × Spot))) 256 w := fun l J _ W hW _ _ _ h0 =>
  (each1N_in F n h160 hro l Bm J W ((hW.cell (p := ⟨Bm, 0, none⟩) hBm).trans hc) h0).mono fun _ _ ⟨he, hj⟩ => ⟨he, .inl ⟨_, rfl, hj⟩⟩
set_option maxRecDepth 100000 in
set_option maxHeartbeats 2000000 in
theorem allN_in (F : Fence) (n : Nat) (h38 : F.fn 38) (h106 : F.fn 106) (h160 : F.fn 160) (hro : F.round = none) (hn : 3 ≤ n) (w : World) :
    CallsIn F n Try.prog 38 #[.pointer none] w fun e W' => ∃ v, e = .returned v ∧ W'.ownsRow w.heap.size 3 1 v (([] : List (Nat × Spot))).length (allL (([] : List (Nat × Spot)))) ∧ Below w.heap.size w W' := by
  have h1 : 1 ≤ n := by omega
  obtain ⟨i0, hi, hz0, hz1, hz2⟩ := info_parts info3
  refine callsIn_of_wp_marks Try.func38 rfl h38 ?_ hro
  simp only [Try.ntmps38, List.size_toArray, List.length_cons, List.length_nil, Nat.reduceAdd, Nat.reduceSub, Array.replicate_succ, Array.replicate_zero, List.push_toArray, List.append_toArray, List.nil_append, List.cons_append]
  gi_wp2_with (gi_at_call 106; refine (each_in F (n - 1) h106 hro _ _).mono ?_; rintro e w' ⟨rfl, rfl⟩)
  have bO := Boxed.new w 49 (.slice none 0 0)
  have bN := Boxed.new (w.alloc (.cells #[.slice none 0 0] 49)) 24 (.pointer none)
  rw [World.size_alloc] at bN
  have hB0 : Below w.heap.size w ((w.alloc (.cells #[.slice none 0 0] 49)).alloc (.cells #[.pointer none] 24)) := ((Below.refl _ w).alloc (Nat.le_refl _) _).alloc (by simp) _
  refine wpIn_rangeFunc_ownG hro h1 (gf := 160) (lb := #[.pointer (some ⟨w.heap.size + 1, 0, none⟩)]) rfl h160 (enters_of Try.func160 (by kernel_rfl) rfl)
    (eachN_stops F (n - 1) h160 hro (w.heap.size + 1) w.heap.size _ (by simp) bN.cell) belowK_t (belowK_b (by simp; omega)) (Below.refl _ _) (fun _ => rfl)
    (fun pre W => (∃ v, Boxed W w.heap.size 49 v ∧ W.ownsRow w.heap.size 3 1 v pre.length (allL pre) ∧ True) ∧ Below w.heap.size w W)
    (fun _ _ _ => False)
    (OwnFrom.and (Own.from (holdsRow_own w.heap.size w.heap.size 49 3 1 (fun pre => pre.length) (fun pre => allL pre) (fun _ _ => True)) _) (ownFrom_below (Nat.le_refl _) (by simp; omega)))
    (fun _ _ _ _ _ hs _ _ => hs)
    ⟨⟨_, bO.alloc _, World.ownsRow_nil _ _ _ _, trivial⟩, hB0⟩
    (fun x => { tmps := #[.pointer none, undef, .slice none 0 0, .pointer (some ⟨w.heap.size, 0, none⟩), .int .i64 (x.1 : Int), .pointer none, .func (.func 160) #[] #[.pointer (some ⟨w.heap.size + 1, 0, none⟩)], .int .i64 (x.1 : Int), .agg #[.int .i64 x.2.seg, .int .i64 x.2.frm, .int .i64 x.2.len, .int .i64 x.2.ver], undef, undef, undef, undef, undef], defers := [] }) ?assign ?body ?done ?stop
  case assign =>
    intro l x W K hK
    unfold encP
    gi_wp2
    exact hK
  case body =>
    rintro l pre x W ⟨⟨v, hv, hrow, -⟩, hB⟩ hlt
    have hc := hv.cell
    gi_wp2_with (gi_at_builtin; refine wpListIn_append_own _ rfl _ _ 49 rfl w.heap.size 3 i0 (.int .i64 0) 1 8 Try.underlying49 hi hz0 hz1 hz2 rfl (by decide) _ _ _ rfl (hrow.alloc _) ⟨W.heap.size, 0, none⟩ 1 1 [.int .i64 (x.1 : Int)] rfl rfl (cell_one_new _ _ _) (by simp [Value.oneCell']) (by simp only [maxLen]; omega) (by omega) (by have := hB.size; simp; omega) ?_; intro v' w1 hown' hgrow _; obtain ⟨g', cap', rfl⟩ := ownsRow_succ hown'; obtain ⟨hv1, hv2, hr2, hk2, hb2⟩ := hv.appended (by decide) hrow hB.size (Nat.le_refl _) hown' hgrow; have hc1 := hv1.cell; have hf1 := hv1.frozen)
    exact ⟨hk2.from _, hb2, ⟨_, hv2, by rw [allL_snoc]; simpa using hr2, trivial⟩, hB.trans hb2⟩
  case done =>
    rintro D ys W hD rfl ⟨⟨v, hv, hrow, -⟩, hB⟩ hK
    have hc := hv.cell
    gi_wp2
    refine ⟨by simp, .inl ⟨_, _, rfl, run_takeDeferred hK, ?_⟩⟩
    exact ⟨_, results_tmp rfl _ _ _, v, rfl, ownsRow_putObj hrow _ hK rfl, hB.trans (belowK_b (w := w) (Nat.le_refl _) W D _ _ (by simp at hD; omega) hK rfl rfl)⟩
  case stop =>
    rintro D c pre W _ _ h _
    exact h.elim

set_option maxRecDepth 100000 in
set_option maxHeartbeats 2000000 in
theorem liveN_in (F : Fence) (n : Nat) (h33 : F.fn 33) (h106 : F.fn 106) (h160 : F.fn 160) (hro : F.round = none) (hn : 3 ≤ n) (s : Int) (w : World) :
    CallsIn F n Try.prog 33 #[.pointer none, .int .i64 s] w fun e W' => e = .returned (.int .i64 (liveW s (([] : List (Nat × Spot))))) ∧ Below w.heap.size w W' := by
  have h1 : 1 ≤ n := by omega
  refine callsIn_of_wp_marks Try.func33 rfl h33 ?_ hro
  simp only [Try.ntmps33, List.size_toArray, List.length_cons, List.length_nil, Nat.reduceAdd, Nat.reduceSub, Array.replicate_succ, Array.replicate_zero, List.push_toArray, List.append_toArray, List.nil_append, List.cons_append]
  gi_wp2_with (gi_at_call 106; refine (each_in F (n - 1) h106 hro _ _).mono ?_; rintro e w' ⟨rfl, rfl⟩)
  have bS := ((Boxed.new w 3 (.int .i64 s)).alloc (.cells #[.int .i64 0] 3)).alloc (.cells #[.pointer none] 24)
  have bN := (Boxed.new (w.alloc (.cells #[.int .i64 s] 3)) 3 (.int .i64 0)).alloc (.cells #[.pointer none] 24)
  have bA := Boxed.new ((w.alloc (.cells #[.int .i64 s] 3)).alloc (.cells #[.int .i64 0] 3)) 24 (.pointer none)
  simp only [World.size_alloc] at bN bA
  have hB0 : Below w.heap.size w (((w.alloc (.cells #[.int .i64 s] 3)).alloc (.cells #[.int .i64 0] 3)).alloc (.cells #[.pointer none] 24)) := (((Below.refl _ w).alloc (Nat.le_refl _) _).alloc (by simp) _).alloc (by simp; omega) _
  have hsz : (((w.alloc (.cells #[.int .i64 s] 3)).alloc (.cells #[.int .i64 0] 3)).alloc (.cells #[.pointer none] 24)).heap.size = w.heap.size + 3 := by simp
  obtain ⟨W0, hW0⟩ : ∃ W0, ((w.alloc (.cells #[.int .i64 s] 3)).alloc (.cells #[.int .i64 0] 3)).alloc (.cells #[.pointer none] 24) = W0 := ⟨_, rfl⟩
  rw [hW0] at bS bN bA hB0 hsz ⊢
  clear hW0
  refine wpIn_rangeFunc_ownH hro h1 (gf := 160) (lb := #[.pointer (some ⟨w.heap.size + 1 + 1, 0, none⟩)]) rfl h160 (enters_of Try.func160 (by kernel_rfl) rfl)
    (eachN_stops F (n - 1) h160 hro (w.heap.size + 1 + 1) w.heap.size W0 (by omega) bA.cell) belowK_t (belowK_b (by omega)) (Below.refl _ _) (fun _ => rfl)
    (fun pre W => (Boxed W (w.heap.size + 1) 3 (.int .i64 (liveW s pre)) ∧ Boxed W w.heap.size 3 (.int .i64 s)) ∧ Below w.heap.size w W)
    (fun _ _ _ => False)
    (OwnFrom.and (OwnFrom.and (Own.from (boxed_own _ _ _) _) (Own.from (boxed_own _ _ _) _)) (ownFrom_below (Nat.le_refl _) (by omega)))
    (fun _ _ _ _ _ hs _ _ => hs)
    ⟨⟨bN, bS⟩, hB0⟩
    (fun x a' W => ∃ Bx, W.heap[Bx]? = some (.cells (spotCells x.2) 27 (0, 0)) ∧ a' = { tmps := #[.pointer none, .int .i64 s, undef, .pointer (some ⟨w.heap.size, 0, none⟩), .int .i64 0, .pointer (some ⟨w.heap.size + 1, 0, none⟩), undef, .pointer (some ⟨Bx, 0, none⟩), .pointer none, .func (.func 160) #[] #[.pointer (some ⟨w.heap.size + 1 + 1, 0, none⟩)], .int .i64 (x.1 : Int), .agg (spotCells x.2), undef, undef, undef, undef, undef, undef, undef, undef, undef], defers := [] })
    (fun x a' _ X Y row hs hg hr => by obtain ⟨Bx, h2, h3⟩ := hs; exact ⟨Bx, obj_kept h2 hg (fun r e => (hr r e).2), h3⟩)
    ?assign ?body ?done ?stop
  case assign =>
    rintro l pre x W K ⟨⟨bN1, bS1⟩, hB1⟩ hK
    unfold encP
    gi_wp2
    exact hK _ _ ((KeepsOthers.alloc _ _).from _) ((Below.refl _ W).alloc hB1.size _) ⟨⟨bN1.alloc _, bS1.alloc _⟩, hB1.alloc hB1.size _⟩ ⟨W.heap.size, obj_new _ _, rfl⟩
  case body =>
    rintro l pre x a' W hl ⟨r, hr⟩ ⟨⟨bN1, bS1⟩, hB1⟩ ⟨Bx, hx, rfl⟩ hlt
    have x0 := obj_cell hx 0
    have x2 := obj_cell hx 2
    simp only [spotCells, List.getElem?_toArray, List.getElem?_cons_zero, List.getElem?_cons_succ] at x0 x2
    have cS := bS1.cell
    have cN := bN1.cell
    have fN := bN1.frozen
    by_cases hs : x.2.seg = s
    · subst hs
      gi_wp2
      exact ⟨(KeepsOthers.setCell _ _ _).from _, (Below.refl w.heap.size W).setCell (p := ⟨w.heap.size + 1, 0, none⟩) (by simp) _, ⟨by rw [liveW_snoc, if_pos rfl]; exact bN1.set _, bS1.kept (grownBy_setCell' _ _ _) (by simp)⟩, hB1.setCell (p := ⟨w.heap.size + 1, 0, none⟩) (by simp) _⟩
    · have hs' : (x.2.seg == s) = false := by simp [hs]
      gi_wp2
      exact ⟨KeepsFrom.refl _ _, Below.refl _ _, ⟨by rw [liveW_snoc, if_neg hs]; exact bN1, bS1⟩, hB1⟩
  case done =>
    rintro D ys W hD rfl ⟨⟨bN1, bS1⟩, hB1⟩ hK
    have cN := bN1.cell
    gi_wp2
    refine ⟨by simp, .inl ⟨_, _, rfl, run_takeDeferred hK, ?_⟩⟩
    exact ⟨_, results_tmp rfl _ _ _, rfl, hB1.trans (belowK_b (w := w) (Nat.le_refl _) W D _ _ (by omega) hK rfl rfl)⟩
  case stop =>
    rintro D c pre W _ _ h _
    exact h.elim
end
theorem all_nil (w : World) : Calls Try.prog 38 #[.pointer none] w fun e W' => ∃ v, e = .returned v ∧ W'.ownsRow w.heap.size 3 1 v 0 [] ∧ Below w.heap.size w W' :=
  (callsIn_wide (n := 8)).1 (allN_in Fence.wide 8 trivial trivial trivial rfl (by decide) w)
theorem live_nil (s : Int) (w : World) : Calls Try.prog 33 #[.pointer none, .int .i64 s] w fun e W' => e = .returned (.int .i64 0) ∧ Below w.heap.size w W' :=
  (callsIn_wide (n := 8)).1 (liveN_in Fence.wide 8 trivial trivial trivial rfl (by decide) s w)
theorem live_any (g : Nat) (M : Nat → Spot) (s : Int) (w : World) (hI : IM w g M) : Calls Try.prog 33 #[.pointer (some ⟨g, 0, none⟩), .int .i64 s] w fun e W' => e = .returned (.int .i64 (liveW s (entUp M 256))) ∧ Below w.heap.size w W' :=
  (callsIn_wide (n := 8)).1 (live_in Fence.wide 8 trivial trivial trivial rfl (by decide) g M s w hI)
set_option maxRecDepth 100000 in
theorem mtext_nil (w : World) : Calls Try.prog 40 #[.pointer none] w fun e W' => e = .returned (.string ⟨#[]⟩) ∧ W' = w := by
  go_enter Try.func40, Try.ntmps40
  go_wp2
  go_ret
  exact ⟨rfl, rfl⟩
theorem free_nil (w : World) : Calls Try.prog 35 #[.pointer none] w fun e W' => e = .returned (.int .i64 0) ∧ W' = w := by
  go_enter Try.func35, Try.ntmps35
  go_wp2
  go_ret
  exact ⟨rfl, rfl⟩
/-- The least inode from 2 on that stands nowhere. -/
def FreeN (M : Nat → Spot) (r : Nat) : Prop := (r = 0 ∧ ∀ i, 2 ≤ i → i < 256 → (M i).ver ≠ 0) ∨ (2 ≤ r ∧ r < 256 ∧ (M r).ver = 0 ∧ ∀ i, 2 ≤ i → i < r → (M i).ver ≠ 0)
theorem FreeN.uniq {M : Nat → Spot} {r r' : Nat} (h : FreeN M r) (h' : FreeN M r') : r' = r := by
  rcases h with ⟨rfl, h⟩ | ⟨a, b, c, h⟩
  · rcases h' with ⟨rfl, _⟩ | ⟨a', b', c', _⟩
    · rfl
    · exact absurd c' (h _ a' b')
  · rcases h' with ⟨rfl, h'⟩ | ⟨a', b', c', h'⟩
    · exact absurd c (h' _ a b)
    · rcases Nat.lt_trichotomy r r' with h1 | h1 | h1
      · exact absurd c (h' _ a h1)
      · exact h1.symm
      · exact absurd c' (h _ a' h1)
def FreeS (M : Nat → Spot) (i : Value) : Prop := ∃ k : Nat, i = .int .i64 k ∧ 2 ≤ k ∧ k ≤ 256 ∧ ∀ j, 2 ≤ j → j < k → (M j).ver ≠ 0
set_option maxHeartbeats 2000000 in
set_option maxRecDepth 100000 in
theorem free_any (g : Nat) (M : Nat → Spot) (w : World) (h : IM w g M) : Calls Try.prog 35 #[.pointer (some ⟨g, 0, none⟩)] w fun e W' => (∃ r : Nat, FreeN M r ∧ e = .returned (.int .i64 (r : Int))) ∧ W' = w := by
  have H := hide h
  clear h
  have HS : Hid (FreeS M (.int .i64 2)) := hide ⟨2, rfl, by decide, by decide, fun j h1 h2 => by omega⟩
  go_enter Try.func35, Try.ntmps35
  go_wp2_with fail
  go_loopw [3] (fun i wr => FreeS M i ∧ wr = w) (fun i _ => 256 - (intOf i).toNat)
  case atStart => exact ⟨HS.out, rfl⟩
  case round =>
    obtain ⟨⟨k, rfl, hk2, hk, hq⟩, rfl⟩ := hrel
    have HQ := hide hq
    clear hq
    rcases Nat.lt_or_ge k 256 with hlt | hge
    · obtain ⟨-, -, -, d⟩ := H.out.cells hlt
      by_cases h0 : (M k).ver = 0
      · have HF : Hid (FreeN M k) := hide (.inr ⟨hk2, hlt, h0, HQ.out⟩)
        rw [h0] at d
        clear h0
        go_wp2
        go_ret
        exact ⟨⟨k, HF.out, rfl⟩, rfl⟩
      · have h0' : ((M k).ver == 0) = false := by simp [h0]
        have HS2 : Hid (FreeS M (.int .i64 ((k + 1 : Nat) : Int))) := hide ⟨k + 1, rfl, by omega, by omega, fun j h1 h2 => by
          rcases Nat.lt_or_ge j k with h3 | h3
          · exact HQ.out j h1 h3
          · obtain rfl : j = k := by omega
            exact h0⟩
        clear h0
        go_wp2
        go_roundw
        case rel => exact ⟨HS2.out, trivial⟩
        case measure => simp [intOf]; omega
    · obtain rfl : k = 256 := by omega
      have HF : Hid (FreeN M 0) := hide (.inl ⟨rfl, HQ.out⟩)
      go_wp2
      go_ret
      exact ⟨⟨0, HF.out, rfl⟩, rfl⟩
theorem zero169 : zeros1024.toArray = Try.zeroCells169 := by kernel_rfl
theorem new25_any (w : World) : Calls Try.prog 26 #[] w fun e W' => e = .returned (.pointer (some ⟨w.heap.size, 0, none⟩)) ∧ IM W' w.heap.size (fun _ => noSpot) ∧ Below w.heap.size w W' := by
  go_enter Try.func26, Try.ntmps26
  go_wp2
  go_ret
  exact ⟨rfl, ⟨_, obj_new _ _, zero169 ▸ rep_zero⟩, (Below.refl _ _).alloc (Nat.le_refl _) _⟩
/-- What reads as numbers. -/
def IntArg (w : World) (v : Value) (l : List (Nat × Spot)) : Prop :=
  (v = .slice none 0 0 ∧ l = []) ∨ ∃ (a : Addr) (cap : Nat), v = .slice (some a) l.length cap ∧ l.length ≤ cap ∧ ∀ i (hi : i < l.length), w.cell? (a.add i) = some (.int .i64 (l[i].1 : Int))
theorem IntArg.below {w w' : World} {v : Value} {l : List (Nat × Spot)} (h : IntArg w v l) (hb : Below w.heap.size w w') : IntArg w' v l := by
  rcases h with h | ⟨a, cap, rfl, h1, h3⟩
  · exact .inl h
  · exact .inr ⟨a, cap, rfl, h1, fun i hi => (hb.cell (World.block_lt_of_cell? _ _ (h3 i hi))).trans (h3 i hi)⟩
theorem IntArg.of_row {w : World} {B : Nat} {v : Value} {l : List (Nat × Spot)} (h : w.ownsRow B 3 1 v l.length (allL l)) : IntArg w v l := by
  rcases h.2 with ⟨rfl, h0⟩ | ⟨g, cap, cur, rfl, hb, hh, hn, hm, hc, ht⟩
  · exact .inl ⟨rfl, List.length_eq_zero_iff.1 h0⟩
  · refine .inr ⟨⟨g, 0, none⟩, cap, rfl, hn, fun i hi => ?_⟩
    rw [add_plain', Nat.zero_add, obj_cell hh]
    have e1 : (allL l)[i]? = some (.int .i64 (l[i].1 : Int)) := by simp [allL, hi]
    rw [← e1, ← ht, List.getElem?_take, if_pos (by omega), Array.getElem?_toList]
theorem drewN_below {w : World} (n : Nat) : Below w.heap.size w (w.drewN n) := ⟨rfl, rfl, rfl, Nat.le_refl _, fun _ _ => rfl⟩
theorem IntArg.slice {w : World} {v : Value} {l : List (Nat × Spot)} (h : IntArg w v l) : ∃ A c, v = .slice A l.length c := by
  rcases h with ⟨rfl, rfl⟩ | ⟨a, cap, rfl, _⟩
  · exact ⟨none, 0, rfl⟩
  · exact ⟨some a, cap, rfl⟩
theorem IntArg.cell {w : World} {v : Value} {l : List (Nat × Spot)} (h : IntArg w v l) {k : Nat} (hk : k < l.length) : ∃ a cap, v = .slice (some a) l.length cap ∧ l.length ≤ cap ∧ w.cell? (a.add k) = some (.int .i64 (l[k].1 : Int)) := by
  rcases h with ⟨rfl, rfl⟩ | ⟨a, cap, rfl, h1, h3⟩
  · simp at hk
  · exact ⟨a, cap, rfl, h1, h3 k hk⟩
def SameI (w0 : World) (n : Nat) (w : World) (i : Value) : Prop := ∃ k : Nat, i = .int .i64 k ∧ k ≤ n ∧ Below w0.heap.size w0 w
set_option maxHeartbeats 4000000 in
set_option maxRecDepth 100000 in
theorem ints_yes (u v : Value) (l : List (Nat × Spot)) (w : World) (hl : l.length ≤ 1048576) (hu : IntArg w u l) (hv : IntArg w v l) : Calls Try.prog 37 #[u, v] w fun e w' => e = .returned (.bool true) ∧ Below w.heap.size w w' := by
  obtain ⟨A, c, eu⟩ := hu.slice
  obtain ⟨A', c', ev⟩ := hv.slice
  subst eu ev
  have HU := hide hu
  have HV := hide hv
  clear hu hv
  have HS : Hid (SameI w l.length w (.int .i64 0)) := hide ⟨0, rfl, Nat.zero_le _, Below.refl _ _⟩
  go_enter Try.func37, Try.ntmps37
  go_wp2_with fail
  go_loopw [5] (fun i wr => SameI w l.length wr i) (fun i _ => l.length - (intOf i).toNat)
  case atStart => exact HS.out
  case round =>
    obtain ⟨k, rfl, hk, hb⟩ := hrel
    have HB := hide hb
    clear hb
    rcases Nat.lt_or_ge k l.length with hkl | hkl
    · obtain ⟨a1, c1, e1, hc1, d1⟩ := (HU.out.below HB.out).cell hkl
      obtain ⟨a2, c2, e2, hc2, d2⟩ := (HV.out.below HB.out).cell hkl
      cases e1
      cases e2
      generalize (l[k].1 : Int) = p at d1 d2
      go_wp2_with fail
      go_quiet (skip)
      go_wp2
      go_roundw
      case rel => exact ⟨k + 1, rfl, hkl, HB.out.trans ((drewN_below _).mono HB.out.size)⟩
      case measure => simp [intOf]; omega
    · obtain rfl : k = l.length := by omega
      go_wp2
      go_ret
      exact ⟨rfl, HB.out⟩
end Go.Proofs.Ytljmaicobafgkaa
end
section
/- Chapter 25, imap: what any bytes tell, plain. -/
namespace Go.Proofs.Ytljmaicobafgkaa
open Go.RowKit

def entRd (σ : Option (List UInt8)) : (Int × Spot) × Option (List UInt8) :=
  (((rInt σ).1, ⟨(rInt (rInt σ).2).1, (rInt (rInt (rInt σ).2).2).1, (rInt (rInt (rInt (rInt σ).2).2).2).1, (rInt (rInt (rInt (rInt (rInt σ).2).2).2).2).1⟩), (rInt (rInt (rInt (rInt (rInt σ).2).2).2).2).2)
def entOk (last : Int) (p : Int × Spot) : Prop := mayI p.1 ∧ last < p.1 ∧ p.2.ok ∧ 1 ≤ p.2.ver ∧ p.2.ver < 2147483648
instance (last : Int) (p : Int × Spot) : Decidable (entOk last p) := by unfold entOk; infer_instance
def rdGo : Nat → Option (List UInt8) → Int → (Nat → Spot) → Option (Option (List UInt8) × (Nat → Spot))
  | 0, σ, _, M => some (σ, M)
  | n + 1, σ, last, M => if entOk last (entRd σ).1 then rdGo n (entRd σ).2 (entRd σ).1.1 (upd M (entRd σ).1.1.toNat (entRd σ).1.2) else none
def rdEnd : Option (Option (List UInt8) × (Nat → Spot)) → Option (Nat → Spot)
  | none => none
  | some (σ, M) => if rDone σ = 0 then some M else none
/-- The map that bytes tell; none: an error. -/
def rdOut (l : List UInt8) : Option (Nat → Spot) :=
  if (rInt (some l)).1 < 0 ∨ 256 ≤ (rInt (some l)).1 then none
  else rdEnd (rdGo (rInt (some l)).1.toNat (rInt (some l)).2 0 (fun _ => noSpot))
theorem rInt_none : rInt none = (0, none) := rfl
theorem entRd_none : entRd none = ((0, ⟨0, 0, 0, 0⟩), none) := rfl
/-- A failed read leaves a version of 0. -/
theorem rInt_bad {σ : Option (List UInt8)} (h : (rInt σ).2 = none) : (rInt σ).1 = 0 := by
  unfold rInt at h ⊢
  rcases σ with _ | l
  · rfl
  · simp only at h ⊢
    rcases e : grpR l 0 0 with _ | ⟨u, n⟩
    · rfl
    · rw [e] at h
      cases h
theorem entRd_bad {σ : Option (List UInt8)} (h : (entRd σ).2 = none) : (entRd σ).1.2.ver = 0 := rInt_bad h
theorem entRd_len {σ : Option (List UInt8)} {r : List UInt8} (h : (entRd σ).2 = some r) {N : Nat} (hl : ∀ l, σ = some l → l.length ≤ N) : r.length ≤ N := by
  refine rInt_len h (N := N) (fun l hl4 => rInt_len hl4 (N := N) (fun l hl3 => rInt_len hl3 (N := N) (fun l hl2 => rInt_len hl2 (N := N) (fun l hl1 => rInt_len hl1 (N := N) hl))))
theorem pair_eta {α β : Type} (p : α × β) {b : β} (h : p.2 = b) : p = (p.1, b) := by rw [← h]
/-- What is read is what stands there. -/
theorem entRd_inv {l r : List UInt8} (h : (entRd (some l)).2 = some r) : l = num (entRd (some l)).1.1 ++ (num (entRd (some l)).1.2.seg ++ (num (entRd (some l)).1.2.frm ++ (num (entRd (some l)).1.2.len ++ num (entRd (some l)).1.2.ver))) ++ r := by
  unfold entRd at h ⊢
  simp only at h ⊢
  rcases e1 : rInt (some l) with ⟨a, _ | l1⟩
  · rw [e1] at h
    cases h
  rw [e1] at h
  simp only at h ⊢
  rcases e2 : rInt (some l1) with ⟨b, _ | l2⟩
  · rw [e2] at h
    cases h
  rw [e2] at h
  simp only at h ⊢
  rcases e3 : rInt (some l2) with ⟨c, _ | l3⟩
  · rw [e3] at h
    cases h
  rw [e3] at h
  simp only at h ⊢
  rcases e4 : rInt (some l3) with ⟨d, _ | l4⟩
  · rw [e4] at h
    cases h
  rw [e4] at h
  simp only at h ⊢
  rcases e5 : rInt (some l4) with ⟨e, _ | l5⟩
  · rw [e5] at h
    cases h
  rw [e5] at h
  simp only [Option.some.injEq] at h ⊢
  subst h
  rw [(rInt_inv e1).1, (rInt_inv e2).1, (rInt_inv e3).1, (rInt_inv e4).1, (rInt_inv e5).1]
  simp only [List.append_assoc]
theorem spot_range {x : Spot} (h : x.ok) (h0 : 0 ≤ x.ver) (h1 : x.ver ≤ 1099511627776) : (-9223372036854775808 ≤ x.seg ∧ x.seg ≤ 9223372036854775807) ∧ (-9223372036854775808 ≤ x.frm ∧ x.frm ≤ 9223372036854775807) ∧ (-9223372036854775808 ≤ x.len ∧ x.len ≤ 9223372036854775807) ∧ (-9223372036854775808 ≤ x.ver ∧ x.ver ≤ 9223372036854775807) := by
  obtain ⟨a, b, c, d, e, f⟩ := h
  refine ⟨⟨?_, ?_⟩, ⟨?_, ?_⟩, ⟨?_, ?_⟩, ?_, ?_⟩ <;> omega
/-- An inode's bytes are that inode. -/
theorem entRd_ent (p : Nat × Spot) (r : List UInt8) (hi : p.1 < 256) (h : p.2.ok) (h0 : 0 ≤ p.2.ver) (h1 : p.2.ver ≤ 1099511627776) : entRd (some (entB25 p ++ r)) = (((p.1 : Int), p.2), some r) := by
  obtain ⟨⟨a0, a1⟩, ⟨b0, b1⟩, ⟨c0, c1⟩, d0, d1⟩ := spot_range h h0 h1
  unfold entRd entB25
  simp only [List.append_assoc]
  rw [rInt_num (p.1 : Int) _ (by omega) (by omega)]
  simp only
  rw [rInt_num p.2.seg _ a0 a1]
  simp only
  rw [rInt_num p.2.frm _ b0 b1]
  simp only
  rw [rInt_num p.2.len _ c0 c1]
  simp only
  rw [rInt_num p.2.ver _ d0 d1]
end Go.Proofs.Ytljmaicobafgkaa
end
