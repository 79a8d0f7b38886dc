/- SegmentBack: the region in which an Add and an alloc come in either order. -/
import Derived.Test.YtljmaicobafgkaaSeg19
import Derived.Test.YtljmaicobafgkaaOrd5
namespace Go.Proofs.Ytljmaicobafgkaa
open Go.RowKit

def backA (sz : Int) (v1 : Value) (g : Nat) (inV atV : Value) (k : Nat) (n : Nat) (u : Nat → Value) (x : Nat → Value) : Act := ⟨#[.int .i64 sz, v1, undef, undef, .bool false, .pointer (some ⟨g, 0, none⟩), inV, atV, .int .i64 k, x 25, x 27, undef, undef, undef, undef, undef, undef, v1, .int .i64 1, .bool false, undef, .int .i64 sz, .pointer (some ⟨g, 0, none⟩), .int .i64 k, v1, .int .i64 n, .bool true, u 27, u 28, x 22, x 0, x 1, x 2, x 3, x 4, x 5, x 6, x 7, x 8, x 9, x 10, x 11, x 12, x 13, x 14, x 15, x 16, x 17, x 18, x 19, x 20, x 21, x 23, x 24, u 54, u 55, u 56, u 57, u 58, u 59, u 60, u 61, u 62, u 63, u 64, u 65, u 66, undef, undef, undef, undef, undef, undef, undef, undef, undef, undef, undef, undef, undef, undef, undef, undef, undef, undef, undef, undef, undef, undef, undef, undef, undef, undef, undef, undef, undef, undef, undef, undef, undef, undef, undef, undef, undef, undef, undef, undef, undef, undef, undef, undef, undef, undef, undef, undef, undef, undef, undef, undef, undef, undef, undef, undef, undef, undef, undef, undef, undef, undef, undef, undef, undef, undef, undef, undef, undef, undef, undef, undef, undef, undef, undef, undef, undef, undef, undef, undef, undef, undef, undef, undef, undef, undef, undef, undef, undef], []⟩
def BkS (w0 : World) (N g : Nat) (size : Int) (l' : List Pc) (p : Pc) (lv0 inV atV : Value) (d : Nat → Bool) (x : Nat → Value) (w : World) : Prop :=
  ∃ lv, (d 21 = false ∧ lv = lv0 ∧ SgP w g size l' lv ∨ d 21 = true ∧ SgP w g size (addL size l' p) lv) ∧ OwP w g inV l' ∧ OwE w g atV (entsAt 0 l') ∧ (∀ j, atV.ownBlock = some j → lv.ownBlock ≠ some j) ∧
    (d 25 = true → ∃ n, x 25 = .pointer (some ⟨n, 0, none⟩) ∧ N ≤ n ∧ n < w.heap.size ∧ lv.ownBlock ≠ some n ∧ atV.ownBlock ≠ some n) ∧ (d 26 = true → d 25 = true ∧ x 26 = x 25) ∧ Below w0.heap.size w0 w ∧ N ≤ w.heap.size
theorem BkS.low {w0 : World} {N g : Nat} {size : Int} {l' : List Pc} {p : Pc} {lv0 inV atV : Value} {d : Nat → Bool} {x : Nat → Value} {w : World} (h : BkS w0 N g size l' p lv0 inV atV d x w) : Below w0.heap.size w0 w := by
  obtain ⟨_, _, _, _, _, _, _, hb, _⟩ := h
  exact hb
theorem BkS.size {w0 : World} {N g : Nat} {size : Int} {l' : List Pc} {p : Pc} {lv0 inV atV : Value} {d : Nat → Bool} {x : Nat → Value} {w : World} (h : BkS w0 N g size l' p lv0 inV atV d x w) : N ≤ w.heap.size := by
  obtain ⟨_, _, _, _, _, _, _, _, hN⟩ := h
  exact hN
def BkV (g k : Nat) (a : Addr) (n c : Nat) (p : Pc) (N : Nat) (size : Int) (l' : List Pc) (i : Nat) (u : Value) (w : World) : Prop :=
  match i with
  | 1 | 6 | 11 | 16 => u = .slice (some a) n c
  | 2 | 7 | 12 | 17 => u = .int .i64 (k : Int)
  | 3 | 8 | 13 | 18 | 4 => u = .pointer (some (a.add (k * 4)))
  | 9 => u = .pointer (some ⟨(a.add (k * 4)).block, (a.add (k * 4)).off + 1, none⟩)
  | 14 => u = .pointer (some ⟨(a.add (k * 4)).block, (a.add (k * 4)).off + 2, none⟩)
  | 19 => u = .pointer (some ⟨(a.add (k * 4)).block, (a.add (k * 4)).off + 3, none⟩)
  | 5 => u = .int .i64 p.kind
  | 10 => u = .int .i64 p.inode
  | 15 => u = .int .i64 p.block
  | 20 => u = .string p.body
  | 21 | 22 => u = .tuple #[entV (addE size l' p), .int .i64 (addC size l' p)]
  | 23 => u = entV (addE size l' p)
  | 24 | 27 => u = .int .i64 (addC size l' p)
  | 25 => ∃ nb y0 y1 y2 y3 y4, u = .pointer (some ⟨nb, 0, none⟩) ∧ N ≤ nb ∧ w.heap[nb]? = some (.cells #[y0, y1, y2, y3, y4] 89 (0, 0))
  | 26 => ∃ nb, u = .pointer (some ⟨nb, 0, none⟩) ∧ N ≤ nb ∧ w.heap[nb]? = some (.cells #[.int .i64 (addE size l' p).kind, .int .i64 (addE size l' p).inode, .int .i64 (addE size l' p).block, .int .i64 (addE size l' p).pos, .int .i64 (addE size l' p).len] 89 (0, 0))
  | _ => u = .pointer (some ⟨g, 0, none⟩)
theorem BkV.fr {F : Nat → Prop} {g k : Nat} {a : Addr} {n c : Nat} {p : Pc} {N : Nat} {size : Int} {l' : List Pc} {i : Nat} {u : Value} {w w' : World} (hf : Fr F w w') (hF : ∀ nb cs, N ≤ nb → w.heap[nb]? = some (.cells cs 89 (0, 0)) → ¬ F nb) (h : BkV g k a n c p N size l' i u w) : BkV g k a n c p N size l' i u w' := by
  unfold BkV at h ⊢
  split at h <;> try exact h
  · obtain ⟨nb, y0, y1, y2, y3, y4, h1, h2, h3⟩ := h
    exact ⟨nb, y0, y1, y2, y3, y4, h1, h2, hf.obj h3 (hF _ _ h2 h3)⟩
  · obtain ⟨nb, h1, h2, h3⟩ := h
    exact ⟨nb, h1, h2, hf.obj h3 (hF _ _ h2 h3)⟩
theorem BkV.low {g k : Nat} {a : Addr} {n c : Nat} {p : Pc} {N : Nat} {size : Int} {l' : List Pc} {i : Nat} {u : Value} {w w' : World} (hb : Below w.heap.size w w') (h : BkV g k a n c p N size l' i u w) : BkV g k a n c p N size l' i u w' :=
  BkV.fr (Fr.of_below (F := fun _ => False) hb) (fun _ _ _ _ h => h) h
theorem BkV.add {g0 g k : Nat} {a : Addr} {n c : Nat} {p : Pc} {N : Nat} {size : Int} {l' : List Pc} {lv : Value} {i : Nat} {u : Value} {w w' : World} (hN : ∀ j, lv.ownBlock = some j → j < N) (hS : SgP w g size l' lv) (hf : Fr (sgF w g lv) w w')
    (h : BkV g0 k a n c p N size l' i u w) : BkV g0 k a n c p N size l' i u w' :=
  BkV.fr hf (fun nb _ h1 h2 => sgF_no hS h2 (by decide) (by decide) (fun h3 => by have := hN _ h3; omega)) h
theorem BkV.store {g k : Nat} {a : Addr} {n c : Nat} {p : Pc} {N : Nat} {size : Int} {l' : List Pc} {i : Nat} {u : Value} {w w' : World} {m : Nat} {v0 v1 v2 v3 v4 : Value} (hf : Fr (· = m) w w') (hm : w'.heap[m]? = some (.cells #[v0, v1, v2, v3, v4] 89 (0, 0))) (hi : i ≠ 26)
    (h : BkV g k a n c p N size l' i u w) : BkV g k a n c p N size l' i u w' := by
  unfold BkV at h ⊢
  split at h <;> try exact h
  · obtain ⟨nb, z0, z1, z2, z3, z4, h1, h2, h3⟩ := h
    by_cases hnm : nb = m
    · subst hnm
      exact ⟨nb, _, _, _, _, _, h1, h2, hm⟩
    · exact ⟨nb, _, _, _, _, _, h1, h2, hf.obj h3 hnm⟩
  · exact absurd rfl hi
theorem bk_add {w0 w w' : World} {N g : Nat} {size : Int} {l' : List Pc} {p : Pc} {lv lv' inV atV : Value} {d : Nat → Bool} {x : Nat → Value} {v : Value} (hsg : SgP w g size l' lv) (hi : OwP w g inV l') (ha : OwE w g atV (entsAt 0 l')) (hn : ∀ j, atV.ownBlock = some j → lv.ownBlock ≠ some j)
    (h25 : d 25 = true → ∃ n, x 25 = .pointer (some ⟨n, 0, none⟩) ∧ N ≤ n ∧ n < w.heap.size ∧ lv.ownBlock ≠ some n ∧ atV.ownBlock ≠ some n) (h26 : d 26 = true → d 25 = true ∧ x 26 = x 25) (hb : Below w0.heap.size w0 w) (hN : N ≤ w.heap.size)
    (hs : SgP w' g size (addL size l' p) lv') (hf : Fr (sgF w g lv) w w') (hl : lv'.ownBlock = lv.ownBlock ∨ ∃ k, lv'.ownBlock = some k ∧ w.heap.size ≤ k) (hg : w0.heap.size ≤ g) (_h : d 21 = false) :
    BkS w0 N g size l' p lv inV atV (fun j => if j = 21 then true else d j) (fun j => if j = 21 then v else x j) w' := by
  have hown : ∀ j cs T f, w.heap[j]? = some (.cells cs T f) → lv.ownBlock ≠ some j → lv'.ownBlock ≠ some j := fun j cs T f hj hne he => by
    rcases hl with h | ⟨k, h, hk⟩
    · exact hne (h ▸ he)
    · rw [h] at he
      cases he
      have := obj_lt hj
      omega
  refine ⟨lv', .inr ⟨rfl, hs⟩, row_fr hi hf (fun k hk => ?_), row_fr ha hf (fun k hk => ?_), fun j hj => ?_, fun h => ?_, fun h => h26 h, hb.trans (hsg.low hf hg), Nat.le_trans hN hf.size⟩
  · obtain ⟨_, cs, h1⟩ := row_typed hi hk
    exact sgF_no hsg h1 (by decide) (by decide) (fun h3 => by
      obtain ⟨cs', h4⟩ := sg_own hsg h3
      rw [h1] at h4
      cases h4)
  · obtain ⟨_, cs, h1⟩ := row_typed ha hk
    exact sgF_no hsg h1 (by decide) (by decide) (hn _ hk)
  · obtain ⟨_, cs, h1⟩ := row_typed ha hj
    exact hown j _ _ _ h1 (hn j hj)
  · obtain ⟨n, h1, h2, h3, h4, h5⟩ := h25 h
    refine ⟨n, h1, h2, Nat.lt_of_lt_of_le h3 hf.size, fun he => ?_, h5⟩
    rcases hl with hh | ⟨k, hh, hk⟩
    · exact h4 (hh ▸ he)
    · rw [hh] at he
      cases he
      omega
theorem bk_alloc {w0 w : World} {N g : Nat} {size : Int} {l' : List Pc} {p : Pc} {lv inV atV : Value} {d : Nat → Bool} {x : Nat → Value} (h : BkS w0 N g size l' p lv inV atV d x w) (hd : d 25 = false) (o : Obj) :
    BkS w0 N g size l' p lv inV atV (fun j => if j = 25 then true else d j) (fun j => if j = 25 then .pointer (some ⟨w.heap.size, 0, none⟩) else x j) (w.alloc o) := by
  obtain ⟨lv1, hst, hi, ha, hn, h25, h26, hb, hN⟩ := h
  have hA : Below w.heap.size w (w.alloc o) := (Below.refl _ _).alloc (Nat.le_refl _) _
  have hown : ∀ j, lv1.ownBlock = some j → j < w.heap.size := fun j hj => by
    rcases hst with ⟨_, _, hs⟩ | ⟨_, hs⟩
    · obtain ⟨_, h1⟩ := sg_own hs hj
      exact obj_lt h1
    · obtain ⟨_, h1⟩ := sg_own hs hj
      exact obj_lt h1
  refine ⟨lv1, hst.imp (fun ⟨h1, h2, h3⟩ => ⟨h1, h2, Sg.below h3 hA⟩) (fun ⟨h1, h2⟩ => ⟨h1, Sg.below h2 hA⟩), row_below hi hA, row_below ha hA, hn, fun _ => ⟨_, rfl, hN, by simp, fun he => ?_, fun he => ?_⟩, fun h => ?_, hb.alloc hb.size _, by simp; omega⟩
  · have := hown _ he
    omega
  · obtain ⟨_, cs, h1⟩ := row_typed ha he
    have := obj_lt h1
    omega
  · have h2 := (h26 h).1
    rw [hd] at h2
    cases h2
theorem bk_store {w0 w : World} {N g : Nat} {size : Int} {l' : List Pc} {p : Pc} {lv inV atV : Value} {d : Nat → Bool} {x : Nat → Value} (h : BkS w0 N g size l' p lv inV atV d x w) (h21 : d 21 = true) (hd : d 25 = true) (h0N : w0.heap.size ≤ N) {n : Nat} {y0 y1 y2 y3 y4 v0 v1 v2 v3 v4 : Value}
    (hx : x 25 = .pointer (some ⟨n, 0, none⟩)) (hh : w.heap[n]? = some (.cells #[y0, y1, y2, y3, y4] 89 (0, 0))) :
    BkS w0 N g size l' p lv inV atV (fun j => if j = 26 then true else d j) (fun j => if j = 26 then .pointer (some ⟨n, 0, none⟩) else x j) (((((w.setCell ⟨n, 0, none⟩ v0).setCell ⟨n, 1, none⟩ v1).setCell ⟨n, 2, none⟩ v2).setCell ⟨n, 3, none⟩ v3).setCell ⟨n, 4, none⟩ v4) := by
  obtain ⟨lv1, hst, hi, ha, hn, h25, h26, hb, hN⟩ := h
  obtain ⟨n', e1, e2, e3, e4, e5⟩ := h25 hd
  rw [hx] at e1
  cases e1
  have hs : SgP w g size (addL size l' p) lv1 := by
    rcases hst with ⟨h1, _⟩ | ⟨_, h1⟩
    · rw [h21] at h1
      cases h1
    · exact h1
  have hf : Fr (· = n) w (((((w.setCell ⟨n, 0, none⟩ v0).setCell ⟨n, 1, none⟩ v1).setCell ⟨n, 2, none⟩ v2).setCell ⟨n, 3, none⟩ v3).setCell ⟨n, 4, none⟩ v4) := five_fr (F := (· = n)) (Fr.refl _ w) (fun _ => rfl)
  refine ⟨lv1, .inr ⟨h21, Sg.far hs hf (fun k hk => ⟨_, _, _, hk ▸ hh, by decide, by decide, fun _ => hk ▸ e4⟩)⟩, row_fr hi hf (fun k hk he => ?_), row_fr ha hf (fun k hk he => ?_), hn, fun _ => ⟨n, hx, e2, Nat.lt_of_lt_of_le e3 hf.size, e4, e5⟩, fun _ => ⟨hd, hx.symm⟩, ?_, Nat.le_trans hN hf.size⟩
  · obtain ⟨_, cs, h1⟩ := row_typed hi hk
    exact obj_ne h1 hh (by decide) he
  · exact e5 (he ▸ hk)
  · exact hb.trans (hf.below w0.heap.size hb.size (fun i hi e => by omega))
/-- What holds at a round's head: the segment, what went in, where it stands. -/
def BackS (w0 : World) (g : Nat) (size : Int) (L : List Pc) (w : World) (inV atV iv : Value) : Prop :=
  ∃ (k : Nat) (l' : List Pc) (lv : Value), iv = .int .i64 k ∧ k ≤ L.length ∧ l'.length ≤ k ∧ SgP w g size l' lv ∧ SegInv size l' ∧ OwP w g inV l' ∧ OwE w g atV (entsAt 0 l') ∧ (∀ j, atV.ownBlock = some j → lv.ownBlock ≠ some j) ∧
    Below w0.heap.size w0 w ∧ w0.heap.size ≤ g
/-- One piece on, in both rows. -/
theorem bk_next {w0 w w5 w6 : World} {g : Nat} {size : Int} {L l' : List Pc} {p : Pc} {lv inV atV vI vA : Value} {k : Nat} {o5 o6 : Obj} (hk : k < L.length) (hlk : l'.length ≤ k) (hok : addOk size l' p) (hI : SegInv size l') (hs : SgP w g size (addL size l' p) lv)
    (hi : OwP w g inV l') (ha : OwE w g atV (entsAt 0 l')) (hn : ∀ j, atV.ownBlock = some j → lv.ownBlock ≠ some j) (hb : Below w0.heap.size w0 w) (hg : w0.heap.size ≤ g)
    (hI5 : OwP w5 g vI (l' ++ [p])) (hf5 : Fr (fun j => inV.ownBlock = some j) (w.alloc o5) w5) (hA6 : OwE w6 g vA (entsAt 0 l' ++ [addE size l' p])) (hf6 : Fr (fun j => atV.ownBlock = some j) (w5.alloc o6) w6) (hvA : vA.ownBlock = atV.ownBlock ∨ vA.ownBlock = some (w5.alloc o6).heap.size) :
    BackS w0 g size L w6 vI vA (.int .i64 ((k + 1 : Nat) : Int)) := by
  have e1 : addL size l' p = l' ++ [p] := if_pos hok
  have e2 : addE size l' p = p.ent (pcText l').length := if_pos hok
  have hs0 := hs
  rw [e1] at hs
  have hA0 : Below w.heap.size w (w.alloc o5) := (Below.refl _ _).alloc (Nat.le_refl _) _
  have hA5 : Below w5.heap.size w5 (w5.alloc o6) := (Below.refl _ _).alloc (Nat.le_refl _) _
  have hw5 : w.heap.size ≤ w5.heap.size := by have := hf5.size; simp at this; omega
  have hgw := Sg.lt hs
  have h1 : SgP (w.alloc o5) g size (l' ++ [p]) lv := Sg.below hs hA0
  have h2 : SgP w5 g size (l' ++ [p]) lv := Sg.far h1 hf5 (fun j hj => by
    obtain ⟨_, cs, h⟩ := row_typed (row_below hi hA0) hj
    exact ⟨cs, 93, _, h, by decide, by decide, fun h => by cases h⟩)
  have h3 : SgP (w5.alloc o6) g size (l' ++ [p]) lv := Sg.below h2 hA5
  have ha5 : OwE w5 g atV (entsAt 0 l') := row_fr (row_below ha hA0) hf5 (fun j hj he => by
    obtain ⟨_, cs, h⟩ := row_typed ha hj
    obtain ⟨_, cs', h'⟩ := row_typed hi he
    rw [h] at h'
    cases h')
  have h4 : SgP w6 g size (l' ++ [p]) lv := Sg.far h3 hf6 (fun j hj => by
    obtain ⟨_, cs, h⟩ := row_typed (row_below ha5 hA5) hj
    exact ⟨cs, 89, _, h, by decide, by decide, fun _ => hn j hj⟩)
  have h5 : OwP w6 g vI (l' ++ [p]) := row_fr (row_below hI5 hA5) hf6 (fun j hj he => by
    obtain ⟨_, cs, h⟩ := row_typed (row_below hI5 hA5) hj
    obtain ⟨_, cs', h'⟩ := row_typed (row_below ha5 hA5) he
    rw [h] at h'
    cases h')
  have hb5 : Below w0.heap.size w0 w5 := (hb.alloc hb.size o5).trans (hf5.below _ (by have := hb.size; simp; omega) (fun j hj he => by
    have := (row_typed hi he).1
    omega))
  refine ⟨k + 1, l' ++ [p], lv, rfl, hk, by simp; omega, h4, hI.snoc hok.1 hok.2, h5, ?_, fun j hj he => ?_, (hb5.alloc hb5.size o6).trans (hf6.below _ (by have := hb5.size; simp; omega) (fun j hj he => by
    have := (row_typed ha he).1
    omega)), hg⟩
  · rw [entsAt_snoc, Nat.zero_add, ← e2]
    exact hA6
  · rcases hvA with h | h
    · exact hn j (h ▸ hj) he
    · rw [h] at hj
      cases hj
      obtain ⟨_, h6⟩ := sg_own hs he
      have := obj_lt h6
      simp at this
      omega
end Go.Proofs.Ytljmaicobafgkaa
