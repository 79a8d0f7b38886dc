/- Chapter 13, net: what a net is; its small functions. -/
import Derived.Test.YtljmaicobafgkaaFrDec
import Derived.Test.YtljmaicobafgkaaRef3
import Derived.Test.YtljmaicobafgkaaOrd2
namespace Go.Proofs.Ytljmaicobafgkaa
open Go.RowKit

/-- Bytes under way, and their link. -/
structure Pcl where
  a : Int
  b : Int
  s : List UInt8
def Pcl.cells (p : Pcl) : List Value := [.int .i64 p.a, .int .i64 p.b, .string ⟨p.s.toArray⟩]
def wayVals (l : List Pcl) : List Value := l.flatMap Pcl.cells
structure NetS where
  n : Int
  way : List Pcl
  cuts : Int × Int → Bool
def lkey (p : Int × Int) : Value := .agg #[.int .i64 p.1, .int .i64 p.2]
def CM (w : World) (c : Nat) (C : Int × Int → Bool) : Prop := ∃ es clock, w.heap[c]? = some (.map es clock) ∧ ∃ L : List (Int × Int), es.toList.map (fun e => (e.key, e.val)) = L.map (fun p => (lkey p, Value.bool true)) ∧ L.Nodup ∧ ∀ p, C p = decide (p ∈ L)
/-- The block g is a net; its row lies in v, its map in c. -/
def NT (w : World) (g : Nat) (v : Value) (c : Nat) (N : NetS) : Prop :=
  w.heap[g]? = some (.cells #[.int .i64 N.n, v, .map (some c)] 209 (0, 0)) ∧ w.ownsRow 0 214 3 v N.way.length (wayVals N.way) ∧ CM w c N.cuts
theorem CM.below {w w' : World} {c : Nat} {L : Int × Int → Bool} (h : CM w c L) (hb : Below w.heap.size w w') : CM w' c L := by
  obtain ⟨es, k, h1, h2⟩ := h
  exact ⟨es, k, obj_below h1 hb, h2⟩
theorem CM.fr {F : Nat → Prop} {w w' : World} {c : Nat} {L : Int × Int → Bool} (h : CM w c L) (hf : Fr F w w') (hc : ¬ F c) : CM w' c L := by
  obtain ⟨es, k, h1, h2⟩ := h
  exact ⟨es, k, hf.obj h1 hc, h2⟩
theorem CM.lt {w : World} {c : Nat} {L : Int × Int → Bool} (h : CM w c L) : c < w.heap.size := by
  obtain ⟨es, k, h1, h2⟩ := h
  exact obj_lt h1
theorem row_lt {w : World} {B : Nat} {e : TypeId} {size : Nat} {v : Value} {n : Nat} {xs : List Value} (h : w.ownsRow B e size v n xs) {k : Nat} (hk : v.ownBlock = some k) : k < w.heap.size := by
  rcases h.2 with ⟨rfl, _⟩ | ⟨g, cap, cur, rfl, h2, h3, h4⟩
  · cases hk
  · cases hk
    exact obj_lt h3
theorem NT.below {w w' : World} {g c : Nat} {v : Value} {N : NetS} (h : NT w g v c N) (hb : Below w.heap.size w w') : NT w' g v c N := ⟨obj_below h.1 hb, row_below h.2.1 hb, h.2.2.below hb⟩
theorem NT.fr {F : Nat → Prop} {w w' : World} {g c : Nat} {v : Value} {N : NetS} (h : NT w g v c N) (hf : Fr F w w') (hg : ¬ F g) (hc : ¬ F c) (hv : ∀ k, v.ownBlock = some k → ¬ F k) : NT w' g v c N := ⟨hf.obj h.1 hg, row_fr h.2.1 hf hv, h.2.2.fr hf hc⟩
theorem NT.row_ne {w : World} {g c : Nat} {v : Value} {N : NetS} (h : NT w g v c N) : v.ownBlock ≠ some g := by
  intro e
  rcases h.2.1.2 with ⟨rfl, _⟩ | ⟨g', cap, cur, rfl, h2, h3, h4⟩
  · cases e
  · cases e
    rw [h.1] at h3
    simp at h3
theorem NT.row_ne_map {w : World} {g c : Nat} {v : Value} {N : NetS} (h : NT w g v c N) : v.ownBlock ≠ some c := by
  intro e
  obtain ⟨es, k, hc, _⟩ := h.2.2
  rcases h.2.1.2 with ⟨rfl, _⟩ | ⟨g', cap, cur, rfl, h2, h3, h4⟩
  · cases e
  · cases e
    rw [hc] at h3
    cases h3
theorem NT.map_ne {w : World} {g c : Nat} {v : Value} {N : NetS} (h : NT w g v c N) : ¬ g = c := by
  rintro rfl
  obtain ⟨es, k, hc, _⟩ := h.2.2
  rw [h.1] at hc
  cases hc
theorem NT.slice {w : World} {g c : Nat} {v : Value} {N : NetS} (h : NT w g v c N) : ∃ A cap, v = .slice A N.way.length cap := by
  rcases h.2.1.2 with ⟨rfl, h0⟩ | ⟨g', cap, cur, rfl, h2, h3, h4⟩
  · exact ⟨none, 0, by rw [h0]⟩
  · exact ⟨_, _, rfl⟩
def nodeP (N : NetS) (i : Int) : Prop := 0 ≤ i ∧ i < N.n
instance (N : NetS) (i : Int) : Decidable (nodeP N i) := by unfold nodeP; infer_instance
set_option maxRecDepth 100000 in
theorem node_nil (i : Int) (w : World) : Calls Try.prog 134 #[.pointer none, .int .i64 i] w fun e w' => e = .returned (.bool false) ∧ w' = w := by
  go_enter Try.func134, Try.ntmps134
  go_wp2
  go_ret
  exact ⟨rfl, rfl⟩
set_option maxRecDepth 100000 in
theorem node_any {w : World} {g c : Nat} {v : Value} {N : NetS} (h : NT w g v c N) (i : Int) : Calls Try.prog 134 #[.pointer (some ⟨g, 0, none⟩), .int .i64 i] w fun e w' => e = .returned (.bool (decide (nodeP N i))) ∧ w' = w := by
  have c0 := obj_cell h.1 0
  simp only [List.getElem?_toArray, List.getElem?_cons_zero] at c0
  clear h
  by_cases h0 : 0 ≤ i
  · by_cases h1 : i < N.n
    · rw [decide_eq_true (p := nodeP N i) ⟨h0, h1⟩]
      go_enter Try.func134, Try.ntmps134
      go_wp2
      go_ret
      exact ⟨rfl, rfl⟩
    · rw [decide_eq_false (p := nodeP N i) (fun h => h1 h.2)]
      go_enter Try.func134, Try.ntmps134
      go_wp2
      go_ret
      exact ⟨rfl, rfl⟩
  · rw [decide_eq_false (p := nodeP N i) (fun h => h0 h.1)]
    go_enter Try.func134, Try.ntmps134
    go_wp2
    go_ret
    exact ⟨rfl, rfl⟩
theorem obj_new' (w : World) (a o : Obj) : ((w.alloc a).alloc o).heap[w.heap.size + 1]? = some o := by
  have := obj_new (w.alloc a) o
  rwa [World.size_alloc] at this
def lnk (a b : Int) : Int × Int := (min a b, max a b)
theorem info211 : (Try.prog.info? 211).map (·.size) = some 2 := by kernel_rfl
set_option maxRecDepth 100000 in
theorem between_any (a b : Int) (w : World) : Calls Try.prog 135 #[.int .i64 a, .int .i64 b] w fun e w' => e = .returned (lkey (lnk a b)) ∧ Below w.heap.size w w' := by
  rcases Int.lt_trichotomy a b with h | rfl | h
  · rw [show lnk a b = (a, b) from by unfold lnk; rw [Int.min_eq_left (by omega), Int.max_eq_right (by omega)]]
    go_enter Try.func135, Try.ntmps135
    go_wp2
    refine bodyPost_ret (res_c rfl _ _ w.heap.size 211 _ (0, 0) _ rfl (obj_new _ _) Try.underlying211 rfl info211) rfl ⟨rfl, (Below.refl _ _).alloc (Nat.le_refl _) _⟩
  · rw [show lnk a a = (a, a) from by unfold lnk; rw [Int.min_self, Int.max_self]]
    go_enter Try.func135, Try.ntmps135
    go_wp2
    refine bodyPost_ret (res_c rfl _ _ w.heap.size 211 _ (0, 0) _ rfl (obj_new _ _) Try.underlying211 rfl info211) rfl ⟨rfl, (Below.refl _ _).alloc (Nat.le_refl _) _⟩
  · rw [show lnk a b = (b, a) from by unfold lnk; rw [Int.min_eq_right (by omega), Int.max_eq_left (by omega)]]
    go_enter Try.func135, Try.ntmps135
    go_wp2
    refine bodyPost_ret (res_c rfl _ _ w.heap.size 211 _ (0, 0) _ rfl (obj_new _ _) Try.underlying211 rfl info211) rfl ⟨rfl, (Below.refl _ _).alloc (Nat.le_refl _) _⟩
set_option maxRecDepth 100000 in
theorem new13_any (n : Int) (w : World) : Calls Try.prog 67 #[.int .i64 n] w fun e w' => e = .returned (.pointer (some ⟨w.heap.size + 1, 0, none⟩)) ∧ NT w' (w.heap.size + 1) (.slice none 0 0) w.heap.size ⟨min (max n 1) 64, [], fun _ => false⟩ ∧ Below w.heap.size w w' := by
  have hmk : (Instr.makeMap 206 none).run Try.prog w = .ok (.map (some w.heap.size)) (w.alloc (.map #[] 0)) := rfl
  have HB : ∀ o, Hid (Below w.heap.size w ((w.alloc (.map #[] 0)).alloc o)) := fun o => hide (((Below.refl w.heap.size w).alloc (Nat.le_refl _) _).alloc (by simp) _)
  by_cases h0 : n < 1
  · rw [show min (max n 1) 64 = 1 from by omega]
    go_enter Try.func67, Try.ntmps67
    go_wp2
    go_ret
    exact ⟨rfl, ⟨obj_new' w _ _, World.ownsRow_nil _ _ _ _, #[], 0, obj_alloc (obj_new _ _) _, [], rfl, List.nodup_nil, fun _ => by simp⟩, (HB _).out⟩
  · by_cases h1 : 64 < n
    · rw [show min (max n 1) 64 = 64 from by omega]
      go_enter Try.func67, Try.ntmps67
      go_wp2
      go_ret
      exact ⟨rfl, ⟨obj_new' w _ _, World.ownsRow_nil _ _ _ _, #[], 0, obj_alloc (obj_new _ _) _, [], rfl, List.nodup_nil, fun _ => by simp⟩, (HB _).out⟩
    · rw [show min (max n 1) 64 = n from by omega]
      go_enter Try.func67, Try.ntmps67
      go_wp2
      go_ret
      exact ⟨rfl, ⟨obj_new' w _ _, World.ownsRow_nil _ _ _ _, #[], 0, obj_alloc (obj_new _ _) _, [], rfl, List.nodup_nil, fun _ => by simp⟩, (HB _).out⟩
set_option maxRecDepth 100000 in
theorem waiting_nil (w : World) : Calls Try.prog 73 #[.pointer none] w fun e w' => e = .returned (.int .i64 0) ∧ w' = w := by
  go_enter Try.func73, Try.ntmps73
  go_wp2
  go_ret
  exact ⟨rfl, rfl⟩
set_option maxRecDepth 100000 in
theorem waiting_any {w : World} {g c : Nat} {v : Value} {N : NetS} (h : NT w g v c N) : Calls Try.prog 73 #[.pointer (some ⟨g, 0, none⟩)] w fun e w' => e = .returned (.int .i64 (N.way.length : Int)) ∧ w' = w := by
  obtain ⟨A, cap, rfl⟩ := h.slice
  have c1 := obj_cell h.1 1
  simp only [List.getElem?_toArray, List.getElem?_cons_zero, List.getElem?_cons_succ] at c1
  clear h
  go_enter Try.func73, Try.ntmps73
  go_wp2
  go_ret
  exact ⟨rfl, rfl⟩
end Go.Proofs.Ytljmaicobafgkaa
