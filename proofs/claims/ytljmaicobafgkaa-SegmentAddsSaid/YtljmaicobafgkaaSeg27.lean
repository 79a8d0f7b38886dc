/- SegmentAdds: what its regions are asked; the walk. -/
import Derived.Test.YtljmaicobafgkaaSeg25
import Derived.Test.YtljmaicobafgkaaSeg21
namespace Go.Proofs.Ytljmaicobafgkaa
open Go.RowKit

def adA7 (sz size : Int) (v1 : Value) (g sb : Nat) (k n : Nat) (u : Nat → Value) (x : Nat → Value) : Act := ⟨#[.int .i64 sz, v1, undef, undef, u 4, .pointer (some ⟨g, 0, none⟩), .pointer (some ⟨sb, 0, none⟩), .int .i64 (k : Int), x 26, x 27, x 30, u 11, u 12, v1, .int .i64 1, .bool false, undef, .int .i64 sz, .pointer (some ⟨g, 0, none⟩), .int .i64 sz, .agg #[.int .i64 size, .string ⟨#[]⟩, .slice none 0 0], .int .i64 (k : Int), v1, .int .i64 (n : Int), .bool true, u 25, u 26, x 22, x 0, x 1, x 2, x 3, x 4, x 5, x 6, x 7, x 8, x 9, x 10, x 11, x 12, x 13, x 14, x 15, x 16, x 17, x 18, x 19, x 20, x 21, x 23, x 24, x 25, u 53, u 54, u 55, u 56, u 57, u 58, u 59, u 60, u 61, u 62, u 63, u 64, u 65, u 66, u 67, u 68, u 69, u 70, u 71, u 72, u 73, u 74, u 75, u 76, u 77, u 78, u 79, u 80, u 81, u 82, u 83, u 84, u 85, u 86, u 87, u 88, u 89, u 90, u 91, u 92, u 93, u 94, u 95, u 96, u 97, u 98, u 99, u 100, u 101, undef, undef, undef, undef, undef, undef, undef, undef], []⟩
def adT (size : Int) (l' : List Pc) (p : Pc) (rv : Value) : Value := .tuple #[.agg #[.int .i64 size, .string ⟨(pcText (addL size l' p)).toArray⟩, rv], entV (addE size l' p), .int .i64 (addC size l' p)]
/-- The row that the reference's Add gives. -/
def adR (B N : Nat) (size : Int) (l' : List Pc) (p : Pc) (rv rv' : Value) (w : World) : Prop := OwE w B rv' (entsAt 0 (addL size l' p)) ∧ ∀ j, rv'.ownBlock = some j → rv.ownBlock = some j ∨ (N ≤ j ∧ addL size l' p ≠ [])
def adV7 (g sb k : Nat) (a : Addr) (n c : Nat) (p : Pc) (N : Nat) (size : Int) (l' : List Pc) (rv : Value) (i : Nat) (u : Value) (w : World) : Prop :=
  match i with
  | 0 => u = .agg #[.int .i64 size, .string ⟨(pcText l').toArray⟩, rv]
  | 1 | 6 | 11 | 16 => u = .slice (some a) n c
  | 2 | 7 | 12 | 17 => u = .int .i64 (k : Int)
  | 3 | 8 | 13 | 18 | 4 => u = .pointer (some (a.add (k * 4)))
  | 9 => u = .pointer (some ⟨(a.add (k * 4)).block, (a.add (k * 4)).off + 1, none⟩)
  | 14 => u = .pointer (some ⟨(a.add (k * 4)).block, (a.add (k * 4)).off + 2, none⟩)
  | 19 => u = .pointer (some ⟨(a.add (k * 4)).block, (a.add (k * 4)).off + 3, none⟩)
  | 5 => u = .int .i64 p.kind
  | 10 => u = .int .i64 p.inode
  | 15 => u = .int .i64 p.block
  | 20 => u = .string p.body
  | 21 | 22 => ∃ rv', u = adT size l' p rv' ∧ adR g N size l' p rv rv' w
  | 23 => ∃ rv', u = .agg #[.int .i64 size, .string ⟨(pcText (addL size l' p)).toArray⟩, rv'] ∧ adR g N size l' p rv rv' w
  | 24 => u = entV (addE size l' p)
  | 25 => u = .int .i64 (addC size l' p)
  | 26 => ∃ nb y0 y1 y2, u = .pointer (some ⟨nb, 0, none⟩) ∧ N ≤ nb ∧ w.heap[nb]? = some (.cells #[y0, y1, y2] 86 (0, 0))
  | 27 => ∃ nb, u = .pointer (some ⟨nb, 0, none⟩) ∧ N ≤ nb
  | 28 => ∃ nb rv', u = .pointer (some ⟨nb, 0, none⟩) ∧ N ≤ nb ∧ w.heap[nb]? = some (.cells #[.int .i64 size, .string ⟨(pcText (addL size l' p)).toArray⟩, rv'] 86 (0, 0)) ∧ adR g N size l' p rv rv' w
  | 29 => ∃ nb, u = .pointer (some ⟨nb, 0, none⟩) ∧ N ≤ nb ∧ w.heap[nb]? = some (.cells #[.int .i64 (addE size l' p).kind, .int .i64 (addE size l' p).inode, .int .i64 (addE size l' p).block, .int .i64 (addE size l' p).pos, .int .i64 (addE size l' p).len] 89 (0, 0))
  | 30 => u = .int .i64 (addC size l' p)
  | _ => True
theorem adR.fr {F : Nat → Prop} {B N : Nat} {size : Int} {l' : List Pc} {p : Pc} {rv rv' : Value} {w w' : World} (hf : Fr F w w') (hF : ∀ j, rv'.ownBlock = some j → ¬ F j) (h : adR B N size l' p rv rv' w) : adR B N size l' p rv rv' w' := ⟨row_fr h.1 hf hF, h.2⟩
theorem adV7.fr {F : Nat → Prop} {g sb k : Nat} {a : Addr} {n c : Nat} {p : Pc} {N : Nat} {size : Int} {l' : List Pc} {rv : Value} {i : Nat} {u : Value} {w w' : World} (hf : Fr F w w') (hR : ∀ rv' j, adR g N size l' p rv rv' w → rv'.ownBlock = some j → ¬ F j)
    (h8 : i ≠ 28 → ∀ (nb : Nat) (y0 y1 y2 : Value), w.heap[nb]? = some (.cells #[y0, y1, y2] 86 (0, 0)) → ∃ z0 z1 z2 : Value, w'.heap[nb]? = some (.cells #[z0, z1, z2] 86 (0, 0))) (h8' : i = 28 → ∀ (nb : Nat) (cs : Array Value), w.heap[nb]? = some (.cells cs 86 (0, 0)) → ¬ F nb) (h9 : i = 29 → ∀ (nb : Nat) (cs : Array Value), w.heap[nb]? = some (.cells cs 89 (0, 0)) → ¬ F nb)
    (h : adV7 g sb k a n c p N size l' rv i u w) : adV7 g sb k a n c p N size l' rv i u w' := by
  unfold adV7 at h ⊢
  split at h <;> try exact h
  · obtain ⟨rv', e1, e2⟩ := h
    exact ⟨rv', e1, e2.fr hf (fun j hj => hR _ j e2 hj)⟩
  · obtain ⟨rv', e1, e2⟩ := h
    exact ⟨rv', e1, e2.fr hf (fun j hj => hR _ j e2 hj)⟩
  · obtain ⟨rv', e1, e2⟩ := h
    exact ⟨rv', e1, e2.fr hf (fun j hj => hR _ j e2 hj)⟩
  · obtain ⟨nb, y0, y1, y2, e1, e2, e3⟩ := h
    obtain ⟨z0, z1, z2, e4⟩ := h8 (by decide) _ _ _ _ e3
    exact ⟨nb, z0, z1, z2, e1, e2, e4⟩
  · obtain ⟨nb, rv', e1, e2, e3, e4⟩ := h
    exact ⟨nb, rv', e1, e2, hf.obj e3 (h8' rfl _ _ e3), e4.fr hf (fun j hj => hR _ j e4 hj)⟩
  · obtain ⟨nb, e1, e2, e3⟩ := h
    exact ⟨nb, e1, e2, hf.obj e3 (h9 rfl _ _ e3)⟩
theorem adV7.low {g sb k : Nat} {a : Addr} {n c : Nat} {p : Pc} {N : Nat} {size : Int} {l' : List Pc} {rv : Value} {i : Nat} {u : Value} {w w' : World} (hb : Below w.heap.size w w') (h : adV7 g sb k a n c p N size l' rv i u w) : adV7 g sb k a n c p N size l' rv i u w' :=
  adV7.fr (Fr.of_below (F := fun _ => False) hb) (fun _ _ _ _ h => h) (fun _ nb y0 y1 y2 h => ⟨y0, y1, y2, obj_below h hb⟩) (fun _ _ _ _ h => h) (fun _ _ _ _ h => h) h
def adS7 (Wr : World) (d : Nat → Bool) (x : Nat → Value) (w : World) : Prop :=
  Below Wr.heap.size Wr w ∧ (d 27 = true → d 29 = false → ∃ nb, x 27 = .pointer (some ⟨nb, 0, none⟩) ∧ w.heap[nb]? = some (.cells #[.int .i64 0, .int .i64 0, .int .i64 0, .int .i64 0, .int .i64 0] 89 (0, 0))) ∧ (d 28 = true → d 26 = true ∧ x 28 = x 26) ∧ (d 29 = true → d 27 = true ∧ x 29 = x 27)
theorem adS7.low {Wr w w' : World} {d : Nat → Bool} {x : Nat → Value} (h : adS7 Wr d x w) (hb : Below w.heap.size w w') : adS7 Wr d x w' :=
  ⟨h.1.trans (hb.mono h.1.size), fun h1 h2 => by
    obtain ⟨nb, e1, e2⟩ := h.2.1 h1 h2
    exact ⟨nb, e1, obj_below e2 hb⟩, h.2.2⟩
theorem adS7.a26 {Wr w w' : World} {d : Nat → Bool} {x : Nat → Value} {v : Value} (h : adS7 Wr d x w) (hd : d 26 = false) (hb : Below w.heap.size w w') : adS7 Wr (fun j => if j = 26 then true else d j) (fun j => if j = 26 then v else x j) w' := by
  obtain ⟨h1, h2, h3, h4⟩ := h.low hb
  refine ⟨h1, h2, fun h => ?_, h4⟩
  have := (h3 h).1
  rw [hd] at this
  cases this
theorem adS7.a27 {Wr w : World} {d : Nat → Bool} {x : Nat → Value} (h : adS7 Wr d x w) (hd : d 27 = false) : adS7 Wr (fun j => if j = 27 then true else d j) (fun j => if j = 27 then .pointer (some ⟨w.heap.size, 0, none⟩) else x j) (w.alloc (.cells #[.int .i64 0, .int .i64 0, .int .i64 0, .int .i64 0, .int .i64 0] 89)) := by
  obtain ⟨h1, h2, h3, h4⟩ := h.low ((Below.refl _ _).alloc (Nat.le_refl _) (.cells #[.int .i64 0, .int .i64 0, .int .i64 0, .int .i64 0, .int .i64 0] 89))
  refine ⟨h1, fun _ _ => ⟨_, rfl, obj_new _ _⟩, h3, fun h => ?_⟩
  have := (h4 h).1
  rw [hd] at this
  cases this
theorem adS7.s28 {Wr w w' : World} {d : Nat → Bool} {x : Nat → Value} {nb : Nat} {cs : Array Value} (h : adS7 Wr d x w) (hd : d 26 = true) (hx : x 26 = .pointer (some ⟨nb, 0, none⟩)) (hN : Wr.heap.size ≤ nb) (hh : w.heap[nb]? = some (.cells cs 86 (0, 0))) (hf : Fr (· = nb) w w') : adS7 Wr (fun j => if j = 28 then true else d j) (fun j => if j = 28 then .pointer (some ⟨nb, 0, none⟩) else x j) w' := by
  obtain ⟨h1, h2, h3, h4⟩ := h
  refine ⟨h1.trans (hf.below _ h1.size (fun i hi e => by omega)), fun h5 h6 => ?_, fun _ => ⟨hd, hx.symm⟩, h4⟩
  obtain ⟨n9, e1, e2⟩ := h2 h5 h6
  exact ⟨n9, e1, hf.obj e2 (obj_ne e2 hh (by decide))⟩
theorem adS7.s29 {Wr w w' : World} {d : Nat → Bool} {x : Nat → Value} {nb : Nat} (h : adS7 Wr d x w) (hd : d 27 = true) (hx : x 27 = .pointer (some ⟨nb, 0, none⟩)) (hN : Wr.heap.size ≤ nb) (hf : Fr (· = nb) w w') : adS7 Wr (fun j => if j = 29 then true else d j) (fun j => if j = 29 then .pointer (some ⟨nb, 0, none⟩) else x j) w' := by
  obtain ⟨h1, h2, h3, h4⟩ := h
  exact ⟨h1.trans (hf.below _ h1.size (fun i hi e => by omega)), fun _ h6 => absurd h6 (by simp), h3, fun _ => ⟨hd, hx.symm⟩⟩
/-- A row of pieces does not begin with zeros. -/
theorem adR.zero {B N : Nat} {size : Int} {l' : List Pc} {p : Pc} {rv rv' : Value} {w : World} (hI : SegInv size (addL size l' p)) (hrv : ∀ j, rv.ownBlock = some j → j < N) (h : adR B N size l' p rv rv' w) {nb : Nat} (hn : N ≤ nb) (hz : w.heap[nb]? = some (.cells #[.int .i64 0, .int .i64 0, .int .i64 0, .int .i64 0, .int .i64 0] 89 (0, 0))) : rv'.ownBlock ≠ some nb := by
  intro he
  rcases h.2 nb he with h1 | ⟨_, h1⟩
  · have := hrv nb h1
    omega
  · generalize hL : addL size l' p = L at *
    rcases L with _ | ⟨y, L⟩
    · exact h1 rfl
    · have hrow := h.1
      rw [hL] at hrow
      obtain ⟨g', c, hv, _, _, _, hc⟩ := ent_cells (k := 0) hrow (by simp [entsAt])
      rw [hv] at he
      cases he
      have := hc 0 (by decide)
      rw [obj_cell hz] at this
      simp [entsAt, Pc.ent, Ent.cells] at this
      have hk := (hI.ok y List.mem_cons_self).1
      omega

theorem three_fr {w : World} {g : Nat} (v0 v1 v2 : Value) : Fr (· = g) w (((w.setCell ⟨g, 0, none⟩ v0).setCell ⟨g, 1, none⟩ v1).setCell ⟨g, 2, none⟩ v2) :=
  (((Fr.refl (· = g) w).setCell (p := ⟨g, 0, none⟩) (fun _ => rfl) _).setCell (p := ⟨g, 1, none⟩) (fun _ => rfl) _).setCell (p := ⟨g, 2, none⟩) (fun _ => rfl) _
theorem SgP.at {w w' : World} {g : Nat} {size : Int} {l : List Pc} {lv : Value} (h : SgP w g size l lv) (hb : Below w.heap.size w w') : SgP w' g size l lv := Sg.below h hb
def adA9 (sz size : Int) (v1 : Value) (g sb : Nat) (k n n8 n9 : Nat) (cc : Int) (u : Nat → Value) (x : Nat → Value) : Act := ⟨#[.int .i64 sz, v1, undef, undef, u 4, .pointer (some ⟨g, 0, none⟩), .pointer (some ⟨sb, 0, none⟩), .int .i64 (k : Int), .pointer (some ⟨n8, 0, none⟩), .pointer (some ⟨n9, 0, none⟩), .int .i64 cc, x 25, x 27, v1, .int .i64 1, .bool false, undef, .int .i64 sz, .pointer (some ⟨g, 0, none⟩), .int .i64 sz, .agg #[.int .i64 size, .string ⟨#[]⟩, .slice none 0 0], .int .i64 (k : Int), v1, .int .i64 (n : Int), .bool true, u 25, u 26, u 27, u 28, u 29, u 30, u 31, u 32, u 33, u 34, u 35, u 36, u 37, u 38, u 39, u 40, u 41, u 42, u 43, u 44, u 45, u 46, u 47, u 48, u 49, u 50, u 51, u 52, u 53, x 22, x 0, x 1, x 2, x 3, x 4, x 5, x 6, x 7, x 8, x 9, x 10, x 11, x 12, x 13, x 14, x 15, x 16, x 17, x 18, x 19, x 20, x 21, x 23, x 24, u 79, u 80, u 81, u 82, u 83, u 84, u 85, u 86, u 87, u 88, u 89, u 90, u 91, u 92, u 93, u 94, u 95, u 96, u 97, u 98, u 99, u 100, u 101, undef, undef, undef, undef, undef, undef, undef, undef], []⟩
def A9S (w0 : World) (N g sb n9 : Nat) (size : Int) (l' : List Pc) (p : Pc) (lv0 rv : Value) (sbc ec : Array Value) (d : Nat → Bool) (x : Nat → Value) (w : World) : Prop :=
  ∃ lv, (d 21 = false ∧ lv = lv0 ∧ SgP w g size l' lv ∨ d 21 = true ∧ SgP w g size (addL size l' p) lv) ∧ OwE w g rv (entsAt 0 (addL size l' p)) ∧ (∀ j, rv.ownBlock = some j → lv.ownBlock ≠ some j) ∧
    w.heap[sb]? = some (.cells sbc 86 (0, 0)) ∧ w.heap[n9]? = some (.cells ec 89 (0, 0)) ∧ lv.ownBlock ≠ some n9 ∧
    (d 25 = true → ∃ n, x 25 = .pointer (some ⟨n, 0, none⟩) ∧ N ≤ n ∧ n < w.heap.size ∧ lv.ownBlock ≠ some n ∧ rv.ownBlock ≠ some n ∧ n ≠ n9) ∧ (d 26 = true → d 25 = true ∧ x 26 = x 25) ∧ Below w0.heap.size w0 w ∧ N ≤ w.heap.size
theorem A9S.low {w0 : World} {N g sb n9 : Nat} {size : Int} {l' : List Pc} {p : Pc} {lv0 rv : Value} {sbc ec : Array Value} {d : Nat → Bool} {x : Nat → Value} {w : World} (h : A9S w0 N g sb n9 size l' p lv0 rv sbc ec d x w) : Below w0.heap.size w0 w := by
  obtain ⟨_, _, _, _, _, _, _, _, _, hb, _⟩ := h
  exact hb
theorem A9S.size {w0 : World} {N g sb n9 : Nat} {size : Int} {l' : List Pc} {p : Pc} {lv0 rv : Value} {sbc ec : Array Value} {d : Nat → Bool} {x : Nat → Value} {w : World} (h : A9S w0 N g sb n9 size l' p lv0 rv sbc ec d x w) : N ≤ w.heap.size := by
  obtain ⟨_, _, _, _, _, _, _, _, _, _, hN⟩ := h
  exact hN
theorem a9_add {w0 w w' : World} {N g sb n9 : Nat} {size : Int} {l' : List Pc} {p : Pc} {lv lv' rv : Value} {sbc ec : Array Value} {d : Nat → Bool} {x : Nat → Value} {v : Value} (hsg : SgP w g size l' lv) (ha : OwE w g rv (entsAt 0 (addL size l' p))) (hn : ∀ j, rv.ownBlock = some j → lv.ownBlock ≠ some j)
    (hsb : w.heap[sb]? = some (.cells sbc 86 (0, 0))) (h9 : w.heap[n9]? = some (.cells ec 89 (0, 0))) (hl9 : lv.ownBlock ≠ some n9)
    (h25 : d 25 = true → ∃ n, x 25 = .pointer (some ⟨n, 0, none⟩) ∧ N ≤ n ∧ n < w.heap.size ∧ lv.ownBlock ≠ some n ∧ rv.ownBlock ≠ some n ∧ n ≠ n9) (h26 : d 26 = true → d 25 = true ∧ x 26 = x 25) (hb : Below w0.heap.size w0 w) (hN : N ≤ w.heap.size)
    (hs : SgP w' g size (addL size l' p) lv') (hf : Fr (sgF w g lv) w w') (hl : lv'.ownBlock = lv.ownBlock ∨ ∃ k, lv'.ownBlock = some k ∧ w.heap.size ≤ k) (hg : w0.heap.size ≤ g) :
    A9S w0 N g sb n9 size l' p lv rv sbc ec (fun j => if j = 21 then true else d j) (fun j => if j = 21 then v else x j) w' := by
  have hlt : ∀ j, j < w.heap.size → lv.ownBlock ≠ some j → lv'.ownBlock ≠ some j := fun j hj hne he => by
    rcases hl with h | ⟨k, h, hk⟩
    · exact hne (h ▸ he)
    · rw [h] at he
      cases he
      omega
  refine ⟨lv', .inr ⟨rfl, hs⟩, row_fr ha hf (fun k hk => ?_), fun j hj => ?_, hf.obj hsb (sgF_no hsg hsb (by decide) (by decide) (fun h3 => ?_)), hf.obj h9 (sgF_no hsg h9 (by decide) (by decide) hl9), hlt _ (obj_lt h9) hl9, fun h => ?_, fun h => h26 h, hb.trans (hsg.low hf hg), Nat.le_trans hN hf.size⟩
  · obtain ⟨_, cs, h1⟩ := row_typed ha hk
    exact sgF_no hsg h1 (by decide) (by decide) (hn _ hk)
  · obtain ⟨_, cs, h1⟩ := row_typed ha hj
    exact hlt j (obj_lt h1) (hn j hj)
  · obtain ⟨cs', h4⟩ := sg_own hsg h3
    rw [hsb] at h4
    cases h4
  · obtain ⟨n, h1, h2, h3, h4, h5, h6⟩ := h25 h
    exact ⟨n, h1, h2, Nat.lt_of_lt_of_le h3 hf.size, hlt n h3 h4, h5, h6⟩
theorem a9_alloc {w0 w : World} {N g sb n9 : Nat} {size : Int} {l' : List Pc} {p : Pc} {lv rv : Value} {sbc ec : Array Value} {d : Nat → Bool} {x : Nat → Value} (h : A9S w0 N g sb n9 size l' p lv rv sbc ec d x w) (hd : d 25 = false) (o : Obj) :
    A9S w0 N g sb n9 size l' p lv rv sbc ec (fun j => if j = 25 then true else d j) (fun j => if j = 25 then .pointer (some ⟨w.heap.size, 0, none⟩) else x j) (w.alloc o) := by
  obtain ⟨lv1, hst, ha, hn, hsb, h9, hl9, h25, h26, hb, hN⟩ := h
  have hA : Below w.heap.size w (w.alloc o) := (Below.refl _ _).alloc (Nat.le_refl _) _
  have hown : ∀ j, lv1.ownBlock = some j → j < w.heap.size := fun j hj => by
    rcases hst with ⟨_, _, hs⟩ | ⟨_, hs⟩
    · obtain ⟨_, h1⟩ := sg_own hs hj
      exact obj_lt h1
    · obtain ⟨_, h1⟩ := sg_own hs hj
      exact obj_lt h1
  have h9l := obj_lt h9
  refine ⟨lv1, hst.imp (fun ⟨h1, h2, h3⟩ => ⟨h1, h2, Sg.below h3 hA⟩) (fun ⟨h1, h2⟩ => ⟨h1, Sg.below h2 hA⟩), row_below ha hA, hn, obj_below hsb hA, obj_below h9 hA, hl9, fun _ => ⟨_, rfl, hN, by simp, fun he => ?_, fun he => ?_, by omega⟩, fun h => ?_, hb.alloc hb.size _, by simp; omega⟩
  · have := hown _ he
    omega
  · obtain ⟨_, cs, h1⟩ := row_typed ha he
    have := obj_lt h1
    omega
  · have h2 := (h26 h).1
    rw [hd] at h2
    cases h2
theorem a9_store {w0 w w' : World} {N g sb n9 : Nat} {size : Int} {l' : List Pc} {p : Pc} {lv rv : Value} {sbc ec : Array Value} {d : Nat → Bool} {x : Nat → Value} (h : A9S w0 N g sb n9 size l' p lv rv sbc ec d x w) (h21 : d 21 = true) (hd : d 25 = true) (h0N : w0.heap.size ≤ N) {n : Nat} {cs : Array Value}
    (hx : x 25 = .pointer (some ⟨n, 0, none⟩)) (hh : w.heap[n]? = some (.cells cs 89 (0, 0))) (hf : Fr (· = n) w w') :
    A9S w0 N g sb n9 size l' p lv rv sbc ec (fun j => if j = 26 then true else d j) (fun j => if j = 26 then .pointer (some ⟨n, 0, none⟩) else x j) w' := by
  obtain ⟨lv1, hst, ha, hn, hsb, h9, hl9, h25, h26, hb, hN⟩ := h
  obtain ⟨n', e1, e2, e3, e4, e5, e6⟩ := h25 hd
  rw [hx] at e1
  cases e1
  have hs : SgP w g size (addL size l' p) lv1 := by
    rcases hst with ⟨h1, _⟩ | ⟨_, h1⟩
    · rw [h21] at h1
      cases h1
    · exact h1
  exact ⟨lv1, .inr ⟨h21, Sg.far hs hf (fun k hk => ⟨_, _, _, hk ▸ hh, by decide, by decide, fun _ => hk ▸ e4⟩)⟩, row_fr ha hf (fun k hk he => e5 (he ▸ hk)), hn, hf.obj hsb (obj_ne hsb hh (by decide)), hf.obj h9 (fun he => e6 he.symm), hl9, fun _ => ⟨n, hx, e2, Nat.lt_of_lt_of_le e3 hf.size, e4, e5, e6⟩, fun _ => ⟨hd, hx.symm⟩, hb.trans (hf.below w0.heap.size hb.size (fun i hi e => by omega)), Nat.le_trans hN hf.size⟩
def adA10 (sz size : Int) (v1 : Value) (g sb : Nat) (k n n8 n9 nb : Nat) (cc : Int) (u : Nat → Value) (x : Nat → Value) : Act := ⟨#[.int .i64 sz, v1, undef, undef, u 4, .pointer (some ⟨g, 0, none⟩), .pointer (some ⟨sb, 0, none⟩), .int .i64 (k : Int), .pointer (some ⟨n8, 0, none⟩), .pointer (some ⟨n9, 0, none⟩), .int .i64 cc, .pointer (some ⟨nb, 0, none⟩), .int .i64 cc, v1, .int .i64 1, .bool false, undef, .int .i64 sz, .pointer (some ⟨g, 0, none⟩), .int .i64 sz, .agg #[.int .i64 size, .string ⟨#[]⟩, .slice none 0 0], .int .i64 (k : Int), v1, .int .i64 (n : Int), .bool true, u 25, u 26, u 27, u 28, u 29, u 30, u 31, u 32, u 33, u 34, u 35, u 36, u 37, u 38, u 39, u 40, u 41, u 42, u 43, u 44, u 45, u 46, u 47, u 48, u 49, u 50, u 51, u 52, u 53, u 54, u 55, u 56, u 57, u 58, u 59, u 60, u 61, u 62, u 63, u 64, u 65, u 66, u 67, u 68, u 69, u 70, u 71, u 72, u 73, u 74, u 75, u 76, u 77, u 78, x 0, x 1, x 2, x 3, x 4, x 5, x 6, x 7, x 8, x 9, x 10, x 11, x 12, x 13, x 14, x 15, x 16, x 17, x 18, x 19, x 20, x 21, x 22, undef, undef, undef, undef, undef, undef, undef, undef], []⟩
def adV10 (g sb : Nat) (ev cv rm ag tx ln : Value) (i : Nat) (u : Value) (_w : World) : Prop :=
  match i with
  | 0 | 1 => u = ev
  | 4 | 5 => u = cv
  | 9 | 16 => u = .pointer (some ⟨g, 0, none⟩)
  | 10 | 12 => u = rm
  | 11 => u = ag
  | 17 | 20 => u = ln
  | 18 => u = .pointer (some ⟨sb, 1, none⟩)
  | 19 => u = tx
  | _ => u = .bool false
def adA12 (sz size : Int) (v1 iv : Value) (g sb : Nat) (n : Nat) (u : Nat → Value) (x : Nat → Value) : Act := ⟨#[.int .i64 sz, v1, undef, undef, x 8, .pointer (some ⟨g, 0, none⟩), .pointer (some ⟨sb, 0, none⟩), iv, u 8, u 9, u 10, u 11, u 12, v1, .int .i64 1, .bool false, undef, .int .i64 sz, .pointer (some ⟨g, 0, none⟩), .int .i64 sz, .agg #[.int .i64 size, .string ⟨#[]⟩, .slice none 0 0], iv, v1, .int .i64 (n : Int), .bool false, u 25, u 26, u 27, u 28, u 29, u 30, u 31, u 32, u 33, u 34, u 35, u 36, u 37, u 38, u 39, u 40, u 41, u 42, u 43, u 44, u 45, u 46, u 47, u 48, u 49, u 50, u 51, u 52, u 53, u 54, u 55, u 56, u 57, u 58, u 59, u 60, u 61, u 62, u 63, u 64, u 65, u 66, u 67, u 68, u 69, u 70, u 71, u 72, u 73, u 74, u 75, u 76, u 77, u 78, u 79, u 80, u 81, u 82, u 83, u 84, u 85, u 86, u 87, u 88, u 89, u 90, u 91, u 92, u 93, u 94, u 95, u 96, u 97, u 98, u 99, u 100, u 101, x 0, x 1, x 2, x 3, x 4, x 5, x 6, x 7], []⟩
def adV12 (g : Nat) (sv ag : Value) (i : Nat) (u : Value) (_w : World) : Prop :=
  match i with
  | 0 => u = .pointer (some ⟨g, 0, none⟩)
  | 1 | 3 => u = sv
  | 2 => u = ag
  | _ => u = .bool true

def AdS (w0 : World) (g sb : Nat) (size : Int) (L : List Pc) (w : World) (iv : Value) : Prop :=
  ∃ (k : Nat) (l' : List Pc) (lv rv : Value), iv = .int .i64 k ∧ k ≤ L.length ∧ l'.length ≤ k ∧ SgP w g size l' lv ∧ SegInv size l' ∧ w.heap[sb]? = some (.cells #[.int .i64 size, .string ⟨(pcText l').toArray⟩, rv] 86 (0, 0)) ∧ OwE w g rv (entsAt 0 l') ∧
    (∀ j, rv.ownBlock = some j → lv.ownBlock ≠ some j) ∧ Below w0.heap.size w0 w ∧ w0.heap.size ≤ g ∧ g ≤ sb
set_option maxHeartbeats 8000000 in
set_option maxRecDepth 1000000 in
theorem walk_segmentAdds (sz : Int) (v : Value) (l : List Pc) (w : World) (_hz : (Lit.int .i64 sz).wf = true) (h : PcArg w v l) (hwf : ∀ x ∈ l, x.wf) :
    Calls Try.prog 11 #[.int .i64 sz, v] w fun e w' => e = .returned (.bool true) ∧ Below w.heap.size w w' := by
  have hlen : l.length ≤ 9223372036854775807 := Nat.le_trans h.len (by decide)
  obtain ⟨A, c, hv⟩ := h.slice
  have H := hide h
  have HW := hide hwf
  subst hv
  clear h hwf
  have hsz0 : 16 ≤ szOf sz := by unfold szOf; omega
  have hsz1 : szOf sz ≤ 65536 := by unfold szOf; omega
  go_enter Try.func11, Try.ntmps11
  go_wp2_with fail
  refine (few_any _ l _ H.out HW.out).mono ?_
  rintro e w1 ⟨hres, hb1⟩
  have HB1 := hide hb1
  have hz1 := hb1.size
  clear hb1
  rcases hres with rfl | ⟨rfl, h50, _⟩
  · go_wp2_with fail
    refine (awake31 _).mono ?_
    rintro e w2 ⟨rfl, hb2⟩
    go_wp2
    go_ret
    exact ⟨rfl, HB1.out.trans (hb2.mono hz1)⟩
  · go_wp2_with fail
    refine (newSeg_any sz _).mono ?_
    rintro e w2 ⟨rfl, hs2, hb2⟩
    go_wp2_with fail
    refine (rNewSeg_any sz _).mono ?_
    rintro e w3 ⟨rfl, hb3⟩
    have hz3 : w1.heap.size ≤ w3.heap.size := Nat.le_trans hb2.size hb3.size
    have HB3 := hide ((HB1.out.trans (hb2.mono hz1)).trans (hb3.mono (Nat.le_trans hz1 hb2.size)))
    have HS2 : Hid (AdS w w1.heap.size w3.heap.size (szOf sz) l (w3.alloc (.cells #[.int .i64 (szOf sz), .string ⟨#[]⟩, .slice none 0 0] 86)) (.int .i64 0)) := hide ⟨0, [], _, .slice none 0 0, rfl, Nat.zero_le _, Nat.le_refl _, Sg.below (Sg.below hs2 hb3) ((Below.refl _ _).alloc (Nat.le_refl _) _), SegInv.nil _, obj_new w3 _, World.ownsRow_nil _ _ _ _, (fun _ h => by cases h), HB3.out.alloc HB3.out.size _, hz1, hz3⟩
    clear hs2 hb2 hb3
    go_wp2_with fail
    go_loopw [7] (fun i wr => AdS w w1.heap.size w3.heap.size (szOf sz) l wr i) (fun i _ => l.length - (intOf i).toNat)
    case atStart => exact HS2.out
    case round =>
      obtain ⟨k, l', lv, rv, rfl, hk, hlk, hS, hI, hR, hRv, hne, hB, hg, hgs⟩ := hrel
      obtain ⟨A2, m2, rfl⟩ := row_slice hRv
      have HS := hide hS
      have HI := hide hI
      have HR := hide hR
      have HRV := hide hRv
      have HNE := hide hne
      have HB := hide hB
      clear hS hI hB hR hRv hne
      rcases Nat.lt_or_ge k l.length with hkl | hkl
      · obtain ⟨a, cap, hv, hc1, hc2, c0, c1, c2, c3⟩ := H.out.cells hkl
        cases hv
        obtain ⟨p, hp⟩ : ∃ p, p = l[k] := ⟨_, rfl⟩
        have hpz : p.body.size ≤ 9223372036854775807 := by rw [hp]; exact Nat.le_trans (HW.out l[k] (List.getElem_mem hkl)).2.2.2 (by decide)
        rw [← hp] at c0 c1 c2 c3
        have C0 := hide c0
        have C1 := hide c1
        have C2 := hide c2
        have C3 := hide c3
        have HPZ := hide hpz
        have HZN := hide (show w.heap.size ≤ wr.heap.size from HB.out.size)
        clear c0 c1 c2 c3 hp hpz
        go_wp2_with fail
        have HGW : Hid (w1.heap.size < wr.heap.size) := hide (Sg.lt HS.out)
        have HRN : Hid (∀ j, (Value.slice A2 (entsAt 0 l').length m2).ownBlock = some j → j < wr.heap.size) := hide (fun j hj => by
          obtain ⟨_, cs, h1⟩ := row_typed HRV.out hj
          exact obj_lt h1)
        obtain ⟨uu, huu⟩ : ∃ uu : Nat → Value, uu = (fun j => if j = 4 then u4 else if j = 11 then u11 else if j = 12 then u12 else if j = 25 then u25 else if j = 26 then u26 else [u53, u54, u55, u56, u57, u58, u59, u60, u61, u62, u63, u64, u65, u66, u67, u68, u69, u70, u71, u72, u73, u74, u75, u76, u77, u78, u79, u80, u81, u82, u83, u84, u85, u86, u87, u88, u89, u90, u91, u92, u93, u94, u95, u96, u97, u98, u99, u100, u101].getD (j - 53) undef) := ⟨_, rfl⟩
        refine wp_region_d (adA7 sz (szOf sz) (.slice (some a) l.length c) w1.heap.size w3.heap.size k l.length uu) (fun j => if j = 26 then u8 else if j = 27 then u9 else if j = 30 then u10 else if j = 22 then u27 else if j = 23 then u50 else if j = 24 then u51 else if j = 25 then u52 else [u28, u29, u30, u31, u32, u33, u34, u35, u36, u37, u38, u39, u40, u41, u42, u43, u44, u45, u46, u47, u48, u49].getD j undef)
          (adS7 wr) (adV7 w1.heap.size w3.heap.size k a l.length c p wr.heap.size (szOf sz) l' (.slice A2 (entsAt 0 l').length m2)) rfl (by kernel_rfl) (by rw [huu]; rfl) ⟨⟨rfl, rfl, rfl, Nat.le_refl _, fun _ _ => rfl⟩, (fun h => by cases h), (fun h => by cases h), (fun h => by cases h)⟩ ?_ ?_ ?_
        all_goals clear huu
        · exact ⟨fun x v => rfl, fun x v => rfl, fun x v => rfl, fun x v => rfl, fun x v => rfl, fun x v => rfl, fun x v => rfl, fun x v => rfl, fun x v => rfl, fun x v => rfl, fun x v => rfl, fun x v => rfl, fun x v => rfl, fun x v => rfl, fun x v => rfl, fun x v => rfl, fun x v => rfl, fun x v => rfl, fun x v => rfl, fun x v => rfl, fun x v => rfl, fun x v => rfl, fun x v => rfl, fun x v => rfl, fun x v => rfl, fun x v => rfl, fun x v => rfl, fun x v => rfl, fun x v => rfl, fun x v => rfl, fun x v => rfl, trivial⟩
        · refine ⟨?_, ?_, ?_, ?_, ?_, ?_, ?_, ?_, ?_, ?_, ?_, ?_, ?_, ?_, ?_, ?_, ?_, ?_, ?_, ?_, ?_, ?_, ?_, ?_, ?_, ?_, ?_, ?_, ?_, ?_, ?_, trivial⟩
          · intro d x w' hS hdi hd hdd K hK
            refine ⟨rfl, ?_⟩
            unfold adA7 at hK ⊢
            have hE := obj_below HR.out hS.1
            have z0 := obj_cell hE 0
            have z1 := obj_cell hE 1
            have z2 := obj_cell hE 2
            have zl := obj_lt hE
            simp only [List.getElem?_toArray, List.getElem?_cons_zero, List.getElem?_cons_succ] at z0 z1 z2
            go_wp2
            exact hK (.agg #[.int .i64 (szOf sz), .string ⟨(pcText l').toArray⟩, .slice A2 (entsAt 0 l').length m2]) w' hS rfl (fun _ _ _ h => h)
          · intro d x w' hS hdi hd hdd K hK
            refine ⟨rfl, ?_⟩
            unfold adA7 at hK ⊢
            go_wp2
            exact hK (.slice (some a) l.length c) w' hS rfl (fun _ _ _ h => h)
          · intro d x w' hS hdi hd hdd K hK
            refine ⟨rfl, ?_⟩
            unfold adA7 at hK ⊢
            go_wp2
            exact hK (.int .i64 (k : Int)) w' hS rfl (fun _ _ _ h => h)
          · intro d x w' hS hdi hd hdd K hK
            have d0 : x 1 = .slice (some a) l.length c := by first | exact hd _ List.mem_cons_self | exact hd _ (List.mem_cons_of_mem _ List.mem_cons_self) | exact hd _ (List.mem_cons_of_mem _ (List.mem_cons_of_mem _ List.mem_cons_self)) | exact hd _ (List.mem_cons_of_mem _ (List.mem_cons_of_mem _ (List.mem_cons_of_mem _ List.mem_cons_self))) | exact hd _ (List.mem_cons_of_mem _ (List.mem_cons_of_mem _ (List.mem_cons_of_mem _ (List.mem_cons_of_mem _ List.mem_cons_self))))
            have d1 : x 2 = .int .i64 (k : Int) := by first | exact hd _ List.mem_cons_self | exact hd _ (List.mem_cons_of_mem _ List.mem_cons_self) | exact hd _ (List.mem_cons_of_mem _ (List.mem_cons_of_mem _ List.mem_cons_self)) | exact hd _ (List.mem_cons_of_mem _ (List.mem_cons_of_mem _ (List.mem_cons_of_mem _ List.mem_cons_self))) | exact hd _ (List.mem_cons_of_mem _ (List.mem_cons_of_mem _ (List.mem_cons_of_mem _ (List.mem_cons_of_mem _ List.mem_cons_self))))
            refine ⟨rfl, ?_⟩
            unfold adA7 at hK ⊢
            simp only [d0, d1] at hK ⊢
            go_wp2
            exact hK (.pointer (some (a.add (k * 4)))) w' hS rfl (fun _ _ _ h => h)
          · intro d x w' hS hdi hd hdd K hK
            have d0 : x 3 = .pointer (some (a.add (k * 4))) := by first | exact hd _ List.mem_cons_self | exact hd _ (List.mem_cons_of_mem _ List.mem_cons_self) | exact hd _ (List.mem_cons_of_mem _ (List.mem_cons_of_mem _ List.mem_cons_self)) | exact hd _ (List.mem_cons_of_mem _ (List.mem_cons_of_mem _ (List.mem_cons_of_mem _ List.mem_cons_self))) | exact hd _ (List.mem_cons_of_mem _ (List.mem_cons_of_mem _ (List.mem_cons_of_mem _ (List.mem_cons_of_mem _ List.mem_cons_self))))
            refine ⟨rfl, ?_⟩
            unfold adA7 at hK ⊢
            simp only [d0] at hK ⊢
            go_wp2
            exact hK (.pointer (some (a.add (k * 4)))) w' hS rfl (fun _ _ _ h => h)
          · intro d x w' hS hdi hd hdd K hK
            have d0 : x 4 = .pointer (some (a.add (k * 4))) := by first | exact hd _ List.mem_cons_self | exact hd _ (List.mem_cons_of_mem _ List.mem_cons_self) | exact hd _ (List.mem_cons_of_mem _ (List.mem_cons_of_mem _ List.mem_cons_self)) | exact hd _ (List.mem_cons_of_mem _ (List.mem_cons_of_mem _ (List.mem_cons_of_mem _ List.mem_cons_self))) | exact hd _ (List.mem_cons_of_mem _ (List.mem_cons_of_mem _ (List.mem_cons_of_mem _ (List.mem_cons_of_mem _ List.mem_cons_self))))
            refine ⟨rfl, ?_⟩
            unfold adA7 at hK ⊢
            simp only [d0] at hK ⊢
            have z := ((HB.out.trans (hS.1.mono HZN.out)).cell (World.block_lt_of_cell? _ _ C0.out)).trans C0.out
            go_wp2
            exact hK (.int .i64 p.kind) w' hS rfl (fun _ _ _ h => h)
          · intro d x w' hS hdi hd hdd K hK
            refine ⟨rfl, ?_⟩
            unfold adA7 at hK ⊢
            go_wp2
            exact hK (.slice (some a) l.length c) w' hS rfl (fun _ _ _ h => h)
          · intro d x w' hS hdi hd hdd K hK
            refine ⟨rfl, ?_⟩
            unfold adA7 at hK ⊢
            go_wp2
            exact hK (.int .i64 (k : Int)) w' hS rfl (fun _ _ _ h => h)
          · intro d x w' hS hdi hd hdd K hK
            have d0 : x 6 = .slice (some a) l.length c := by first | exact hd _ List.mem_cons_self | exact hd _ (List.mem_cons_of_mem _ List.mem_cons_self) | exact hd _ (List.mem_cons_of_mem _ (List.mem_cons_of_mem _ List.mem_cons_self)) | exact hd _ (List.mem_cons_of_mem _ (List.mem_cons_of_mem _ (List.mem_cons_of_mem _ List.mem_cons_self))) | exact hd _ (List.mem_cons_of_mem _ (List.mem_cons_of_mem _ (List.mem_cons_of_mem _ (List.mem_cons_of_mem _ List.mem_cons_self))))
            have d1 : x 7 = .int .i64 (k : Int) := by first | exact hd _ List.mem_cons_self | exact hd _ (List.mem_cons_of_mem _ List.mem_cons_self) | exact hd _ (List.mem_cons_of_mem _ (List.mem_cons_of_mem _ List.mem_cons_self)) | exact hd _ (List.mem_cons_of_mem _ (List.mem_cons_of_mem _ (List.mem_cons_of_mem _ List.mem_cons_self))) | exact hd _ (List.mem_cons_of_mem _ (List.mem_cons_of_mem _ (List.mem_cons_of_mem _ (List.mem_cons_of_mem _ List.mem_cons_self))))
            refine ⟨rfl, ?_⟩
            unfold adA7 at hK ⊢
            simp only [d0, d1] at hK ⊢
            go_wp2
            exact hK (.pointer (some (a.add (k * 4)))) w' hS rfl (fun _ _ _ h => h)
          · intro d x w' hS hdi hd hdd K hK
            have d0 : x 8 = .pointer (some (a.add (k * 4))) := by first | exact hd _ List.mem_cons_self | exact hd _ (List.mem_cons_of_mem _ List.mem_cons_self) | exact hd _ (List.mem_cons_of_mem _ (List.mem_cons_of_mem _ List.mem_cons_self)) | exact hd _ (List.mem_cons_of_mem _ (List.mem_cons_of_mem _ (List.mem_cons_of_mem _ List.mem_cons_self))) | exact hd _ (List.mem_cons_of_mem _ (List.mem_cons_of_mem _ (List.mem_cons_of_mem _ (List.mem_cons_of_mem _ List.mem_cons_self))))
            refine ⟨rfl, ?_⟩
            unfold adA7 at hK ⊢
            simp only [d0] at hK ⊢
            go_wp2
            exact hK (.pointer (some ⟨(a.add (k * 4)).block, (a.add (k * 4)).off + 1, none⟩)) w' hS rfl (fun _ _ _ h => h)
          · intro d x w' hS hdi hd hdd K hK
            have d0 : x 9 = .pointer (some ⟨(a.add (k * 4)).block, (a.add (k * 4)).off + 1, none⟩) := by first | exact hd _ List.mem_cons_self | exact hd _ (List.mem_cons_of_mem _ List.mem_cons_self) | exact hd _ (List.mem_cons_of_mem _ (List.mem_cons_of_mem _ List.mem_cons_self)) | exact hd _ (List.mem_cons_of_mem _ (List.mem_cons_of_mem _ (List.mem_cons_of_mem _ List.mem_cons_self))) | exact hd _ (List.mem_cons_of_mem _ (List.mem_cons_of_mem _ (List.mem_cons_of_mem _ (List.mem_cons_of_mem _ List.mem_cons_self))))
            refine ⟨rfl, ?_⟩
            unfold adA7 at hK ⊢
            simp only [d0] at hK ⊢
            have z := ((HB.out.trans (hS.1.mono HZN.out)).cell (World.block_lt_of_cell? _ _ C1.out)).trans C1.out
            go_wp2
            exact hK (.int .i64 p.inode) w' hS rfl (fun _ _ _ h => h)
          · intro d x w' hS hdi hd hdd K hK
            refine ⟨rfl, ?_⟩
            unfold adA7 at hK ⊢
            go_wp2
            exact hK (.slice (some a) l.length c) w' hS rfl (fun _ _ _ h => h)
          · intro d x w' hS hdi hd hdd K hK
            refine ⟨rfl, ?_⟩
            unfold adA7 at hK ⊢
            go_wp2
            exact hK (.int .i64 (k : Int)) w' hS rfl (fun _ _ _ h => h)
          · intro d x w' hS hdi hd hdd K hK
            have d0 : x 11 = .slice (some a) l.length c := by first | exact hd _ List.mem_cons_self | exact hd _ (List.mem_cons_of_mem _ List.mem_cons_self) | exact hd _ (List.mem_cons_of_mem _ (List.mem_cons_of_mem _ List.mem_cons_self)) | exact hd _ (List.mem_cons_of_mem _ (List.mem_cons_of_mem _ (List.mem_cons_of_mem _ List.mem_cons_self))) | exact hd _ (List.mem_cons_of_mem _ (List.mem_cons_of_mem _ (List.mem_cons_of_mem _ (List.mem_cons_of_mem _ List.mem_cons_self))))
            have d1 : x 12 = .int .i64 (k : Int) := by first | exact hd _ List.mem_cons_self | exact hd _ (List.mem_cons_of_mem _ List.mem_cons_self) | exact hd _ (List.mem_cons_of_mem _ (List.mem_cons_of_mem _ List.mem_cons_self)) | exact hd _ (List.mem_cons_of_mem _ (List.mem_cons_of_mem _ (List.mem_cons_of_mem _ List.mem_cons_self))) | exact hd _ (List.mem_cons_of_mem _ (List.mem_cons_of_mem _ (List.mem_cons_of_mem _ (List.mem_cons_of_mem _ List.mem_cons_self))))
            refine ⟨rfl, ?_⟩
            unfold adA7 at hK ⊢
            simp only [d0, d1] at hK ⊢
            go_wp2
            exact hK (.pointer (some (a.add (k * 4)))) w' hS rfl (fun _ _ _ h => h)
          · intro d x w' hS hdi hd hdd K hK
            have d0 : x 13 = .pointer (some (a.add (k * 4))) := by first | exact hd _ List.mem_cons_self | exact hd _ (List.mem_cons_of_mem _ List.mem_cons_self) | exact hd _ (List.mem_cons_of_mem _ (List.mem_cons_of_mem _ List.mem_cons_self)) | exact hd _ (List.mem_cons_of_mem _ (List.mem_cons_of_mem _ (List.mem_cons_of_mem _ List.mem_cons_self))) | exact hd _ (List.mem_cons_of_mem _ (List.mem_cons_of_mem _ (List.mem_cons_of_mem _ (List.mem_cons_of_mem _ List.mem_cons_self))))
            refine ⟨rfl, ?_⟩
            unfold adA7 at hK ⊢
            simp only [d0] at hK ⊢
            go_wp2
            exact hK (.pointer (some ⟨(a.add (k * 4)).block, (a.add (k * 4)).off + 2, none⟩)) w' hS rfl (fun _ _ _ h => h)
          · intro d x w' hS hdi hd hdd K hK
            have d0 : x 14 = .pointer (some ⟨(a.add (k * 4)).block, (a.add (k * 4)).off + 2, none⟩) := by first | exact hd _ List.mem_cons_self | exact hd _ (List.mem_cons_of_mem _ List.mem_cons_self) | exact hd _ (List.mem_cons_of_mem _ (List.mem_cons_of_mem _ List.mem_cons_self)) | exact hd _ (List.mem_cons_of_mem _ (List.mem_cons_of_mem _ (List.mem_cons_of_mem _ List.mem_cons_self))) | exact hd _ (List.mem_cons_of_mem _ (List.mem_cons_of_mem _ (List.mem_cons_of_mem _ (List.mem_cons_of_mem _ List.mem_cons_self))))
            refine ⟨rfl, ?_⟩
            unfold adA7 at hK ⊢
            simp only [d0] at hK ⊢
            have z := ((HB.out.trans (hS.1.mono HZN.out)).cell (World.block_lt_of_cell? _ _ C2.out)).trans C2.out
            go_wp2
            exact hK (.int .i64 p.block) w' hS rfl (fun _ _ _ h => h)
          · intro d x w' hS hdi hd hdd K hK
            refine ⟨rfl, ?_⟩
            unfold adA7 at hK ⊢
            go_wp2
            exact hK (.slice (some a) l.length c) w' hS rfl (fun _ _ _ h => h)
          · intro d x w' hS hdi hd hdd K hK
            refine ⟨rfl, ?_⟩
            unfold adA7 at hK ⊢
            go_wp2
            exact hK (.int .i64 (k : Int)) w' hS rfl (fun _ _ _ h => h)
          · intro d x w' hS hdi hd hdd K hK
            have d0 : x 16 = .slice (some a) l.length c := by first | exact hd _ List.mem_cons_self | exact hd _ (List.mem_cons_of_mem _ List.mem_cons_self) | exact hd _ (List.mem_cons_of_mem _ (List.mem_cons_of_mem _ List.mem_cons_self)) | exact hd _ (List.mem_cons_of_mem _ (List.mem_cons_of_mem _ (List.mem_cons_of_mem _ List.mem_cons_self))) | exact hd _ (List.mem_cons_of_mem _ (List.mem_cons_of_mem _ (List.mem_cons_of_mem _ (List.mem_cons_of_mem _ List.mem_cons_self))))
            have d1 : x 17 = .int .i64 (k : Int) := by first | exact hd _ List.mem_cons_self | exact hd _ (List.mem_cons_of_mem _ List.mem_cons_self) | exact hd _ (List.mem_cons_of_mem _ (List.mem_cons_of_mem _ List.mem_cons_self)) | exact hd _ (List.mem_cons_of_mem _ (List.mem_cons_of_mem _ (List.mem_cons_of_mem _ List.mem_cons_self))) | exact hd _ (List.mem_cons_of_mem _ (List.mem_cons_of_mem _ (List.mem_cons_of_mem _ (List.mem_cons_of_mem _ List.mem_cons_self))))
            refine ⟨rfl, ?_⟩
            unfold adA7 at hK ⊢
            simp only [d0, d1] at hK ⊢
            go_wp2
            exact hK (.pointer (some (a.add (k * 4)))) w' hS rfl (fun _ _ _ h => h)
          · intro d x w' hS hdi hd hdd K hK
            have d0 : x 18 = .pointer (some (a.add (k * 4))) := by first | exact hd _ List.mem_cons_self | exact hd _ (List.mem_cons_of_mem _ List.mem_cons_self) | exact hd _ (List.mem_cons_of_mem _ (List.mem_cons_of_mem _ List.mem_cons_self)) | exact hd _ (List.mem_cons_of_mem _ (List.mem_cons_of_mem _ (List.mem_cons_of_mem _ List.mem_cons_self))) | exact hd _ (List.mem_cons_of_mem _ (List.mem_cons_of_mem _ (List.mem_cons_of_mem _ (List.mem_cons_of_mem _ List.mem_cons_self))))
            refine ⟨rfl, ?_⟩
            unfold adA7 at hK ⊢
            simp only [d0] at hK ⊢
            go_wp2
            exact hK (.pointer (some ⟨(a.add (k * 4)).block, (a.add (k * 4)).off + 3, none⟩)) w' hS rfl (fun _ _ _ h => h)
          · intro d x w' hS hdi hd hdd K hK
            have d0 : x 19 = .pointer (some ⟨(a.add (k * 4)).block, (a.add (k * 4)).off + 3, none⟩) := by first | exact hd _ List.mem_cons_self | exact hd _ (List.mem_cons_of_mem _ List.mem_cons_self) | exact hd _ (List.mem_cons_of_mem _ (List.mem_cons_of_mem _ List.mem_cons_self)) | exact hd _ (List.mem_cons_of_mem _ (List.mem_cons_of_mem _ (List.mem_cons_of_mem _ List.mem_cons_self))) | exact hd _ (List.mem_cons_of_mem _ (List.mem_cons_of_mem _ (List.mem_cons_of_mem _ (List.mem_cons_of_mem _ List.mem_cons_self))))
            refine ⟨rfl, ?_⟩
            unfold adA7 at hK ⊢
            simp only [d0] at hK ⊢
            have z := ((HB.out.trans (hS.1.mono HZN.out)).cell (World.block_lt_of_cell? _ _ C3.out)).trans C3.out
            go_wp2
            exact hK (.string p.body) w' hS rfl (fun _ _ _ h => h)
          · intro d x w' hS hdi hd hdd K hK
            have d0 : x 0 = .agg #[.int .i64 (szOf sz), .string ⟨(pcText l').toArray⟩, .slice A2 (entsAt 0 l').length m2] := by first | exact hd _ List.mem_cons_self | exact hd _ (List.mem_cons_of_mem _ List.mem_cons_self) | exact hd _ (List.mem_cons_of_mem _ (List.mem_cons_of_mem _ List.mem_cons_self)) | exact hd _ (List.mem_cons_of_mem _ (List.mem_cons_of_mem _ (List.mem_cons_of_mem _ List.mem_cons_self))) | exact hd _ (List.mem_cons_of_mem _ (List.mem_cons_of_mem _ (List.mem_cons_of_mem _ (List.mem_cons_of_mem _ List.mem_cons_self))))
            have d1 : x 5 = .int .i64 p.kind := by first | exact hd _ List.mem_cons_self | exact hd _ (List.mem_cons_of_mem _ List.mem_cons_self) | exact hd _ (List.mem_cons_of_mem _ (List.mem_cons_of_mem _ List.mem_cons_self)) | exact hd _ (List.mem_cons_of_mem _ (List.mem_cons_of_mem _ (List.mem_cons_of_mem _ List.mem_cons_self))) | exact hd _ (List.mem_cons_of_mem _ (List.mem_cons_of_mem _ (List.mem_cons_of_mem _ (List.mem_cons_of_mem _ List.mem_cons_self))))
            have d2 : x 10 = .int .i64 p.inode := by first | exact hd _ List.mem_cons_self | exact hd _ (List.mem_cons_of_mem _ List.mem_cons_self) | exact hd _ (List.mem_cons_of_mem _ (List.mem_cons_of_mem _ List.mem_cons_self)) | exact hd _ (List.mem_cons_of_mem _ (List.mem_cons_of_mem _ (List.mem_cons_of_mem _ List.mem_cons_self))) | exact hd _ (List.mem_cons_of_mem _ (List.mem_cons_of_mem _ (List.mem_cons_of_mem _ (List.mem_cons_of_mem _ List.mem_cons_self))))
            have d3 : x 15 = .int .i64 p.block := by first | exact hd _ List.mem_cons_self | exact hd _ (List.mem_cons_of_mem _ List.mem_cons_self) | exact hd _ (List.mem_cons_of_mem _ (List.mem_cons_of_mem _ List.mem_cons_self)) | exact hd _ (List.mem_cons_of_mem _ (List.mem_cons_of_mem _ (List.mem_cons_of_mem _ List.mem_cons_self))) | exact hd _ (List.mem_cons_of_mem _ (List.mem_cons_of_mem _ (List.mem_cons_of_mem _ (List.mem_cons_of_mem _ List.mem_cons_self))))
            have d4 : x 20 = .string p.body := by first | exact hd _ List.mem_cons_self | exact hd _ (List.mem_cons_of_mem _ List.mem_cons_self) | exact hd _ (List.mem_cons_of_mem _ (List.mem_cons_of_mem _ List.mem_cons_self)) | exact hd _ (List.mem_cons_of_mem _ (List.mem_cons_of_mem _ (List.mem_cons_of_mem _ List.mem_cons_self))) | exact hd _ (List.mem_cons_of_mem _ (List.mem_cons_of_mem _ (List.mem_cons_of_mem _ (List.mem_cons_of_mem _ List.mem_cons_self))))
            refine ⟨rfl, ?_⟩
            unfold adA7 at hK ⊢
            simp only [d0, d1, d2, d3, d4] at hK ⊢
            go_wp2_with fail
            refine (raddP (szOf sz) l' (.slice A2 (entsAt 0 l').length m2) w1.heap.size p _ (row_below HRV.out hS.1) (by have := hS.1.size; have := HGW.out; omega) HI.out hsz0 hsz1 HPZ.out).mono ?_
            rintro e w4 ⟨rv', rfl, hO, hown, hb4⟩
            exact hK (adT (szOf sz) l' p rv') w4 (hS.low hb4) ⟨rv', rfl, hO, fun j hj => (hown j hj).imp id (fun h => ⟨Nat.le_trans hS.1.size h.1, h.2⟩)⟩ (fun j u _ h => adV7.low hb4 h)
          · intro d x w' hS hdi hd hdd K hK
            obtain ⟨rv', d0, hr⟩ : adV7 w1.heap.size w3.heap.size k a l.length c p wr.heap.size (szOf sz) l' (.slice A2 (entsAt 0 l').length m2) 21 (x 21) w' := hd _ List.mem_cons_self
            refine ⟨rfl, ?_⟩
            unfold adA7 at hK ⊢
            simp only [d0] at hK ⊢
            go_wp2
            exact hK (adT (szOf sz) l' p rv') w' hS ⟨rv', rfl, hr⟩ (fun _ _ _ h => h)
          · intro d x w' hS hdi hd hdd K hK
            obtain ⟨rv', d0, hr⟩ : adV7 w1.heap.size w3.heap.size k a l.length c p wr.heap.size (szOf sz) l' (.slice A2 (entsAt 0 l').length m2) 22 (x 22) w' := hd _ List.mem_cons_self
            unfold adT at d0
            refine ⟨rfl, ?_⟩
            unfold adA7 at hK ⊢
            simp only [d0] at hK ⊢
            go_wp2
            exact hK (.agg #[.int .i64 (szOf sz), .string ⟨(pcText (addL (szOf sz) l' p)).toArray⟩, rv']) w' hS ⟨rv', rfl, hr⟩ (fun _ _ _ h => h)
          · intro d x w' hS hdi hd hdd K hK
            obtain ⟨rv', d0, hr⟩ : adV7 w1.heap.size w3.heap.size k a l.length c p wr.heap.size (szOf sz) l' (.slice A2 (entsAt 0 l').length m2) 22 (x 22) w' := hd _ List.mem_cons_self
            unfold adT at d0
            refine ⟨rfl, ?_⟩
            unfold adA7 at hK ⊢
            simp only [d0] at hK ⊢
            go_wp2
            exact hK (entV (addE (szOf sz) l' p)) w' hS rfl (fun _ _ _ h => h)
          · intro d x w' hS hdi hd hdd K hK
            obtain ⟨rv', d0, hr⟩ : adV7 w1.heap.size w3.heap.size k a l.length c p wr.heap.size (szOf sz) l' (.slice A2 (entsAt 0 l').length m2) 22 (x 22) w' := hd _ List.mem_cons_self
            unfold adT at d0
            refine ⟨rfl, ?_⟩
            unfold adA7 at hK ⊢
            simp only [d0] at hK ⊢
            go_wp2
            exact hK (.int .i64 (addC (szOf sz) l' p)) w' hS rfl (fun _ _ _ h => h)
          · intro d x w' hS hdi hd hdd K hK
            refine ⟨rfl, ?_⟩
            unfold adA7 at hK ⊢
            have hb2 : Below w'.heap.size w' (w'.alloc (.cells #[.int .i64 0, .string ⟨#[]⟩, .slice none 0 0] 86)) := (Below.refl _ _).alloc (Nat.le_refl _) _
            go_wp2
            exact hK (.pointer (some ⟨w'.heap.size, 0, none⟩)) _ (hS.a26 hdi hb2) ⟨_, _, _, _, rfl, hS.1.size, obj_new _ _⟩ (fun j u _ h => adV7.low hb2 h)
          · intro d x w' hS hdi hd hdd K hK
            refine ⟨rfl, ?_⟩
            unfold adA7 at hK ⊢
            have hb2 : Below w'.heap.size w' (w'.alloc (.cells #[.int .i64 0, .int .i64 0, .int .i64 0, .int .i64 0, .int .i64 0] 89)) := (Below.refl _ _).alloc (Nat.le_refl _) _
            go_wp2
            exact hK (.pointer (some ⟨w'.heap.size, 0, none⟩)) _ (hS.a27 hdi) ⟨_, rfl, hS.1.size⟩ (fun j u _ h => adV7.low hb2 h)
          · intro d x w' hS hdi hd hdd K hK
            obtain ⟨nb, y0, y1, y2, d0, hnb, hnh⟩ : adV7 w1.heap.size w3.heap.size k a l.length c p wr.heap.size (szOf sz) l' (.slice A2 (entsAt 0 l').length m2) 26 (x 26) w' := hd _ List.mem_cons_self
            obtain ⟨rv', d1, hr⟩ : adV7 w1.heap.size w3.heap.size k a l.length c p wr.heap.size (szOf sz) l' (.slice A2 (entsAt 0 l').length m2) 23 (x 23) w' := hd _ (List.mem_cons_of_mem _ List.mem_cons_self)
            obtain ⟨A5, c5, rfl⟩ := row_slice hr.1
            have h26 : d 26 = true := by first | exact hdd _ List.mem_cons_self | exact hdd _ (List.mem_cons_of_mem _ List.mem_cons_self) | exact hdd _ (List.mem_cons_of_mem _ (List.mem_cons_of_mem _ List.mem_cons_self)) | exact hdd _ (List.mem_cons_of_mem _ (List.mem_cons_of_mem _ (List.mem_cons_of_mem _ List.mem_cons_self)))
            refine ⟨rfl, ?_⟩
            unfold adA7 at hK ⊢
            simp only [d0, d1] at hK ⊢
            have q0 := obj_cell hnh 0
            have q1 := obj_cell hnh 1
            have q2 := obj_cell hnh 2
            have f0 := obj_frozen hnh 0
            have f1 := obj_frozen hnh 1
            have f2 := obj_frozen hnh 2
            simp only [List.getElem?_toArray, List.getElem?_cons_zero, List.getElem?_cons_succ] at q0 q1 q2
            have HNH := hide hnh
            clear hnh
            go_wp2
            have hT := three_setT HNH.out (.int .i64 (szOf sz)) (.string ⟨(pcText (addL (szOf sz) l' p)).toArray⟩) (.slice A5 (entsAt 0 (addL (szOf sz) l' p)).length c5)
            have hF3 := three_fr (w := w') (g := nb) (.int .i64 (szOf sz)) (.string ⟨(pcText (addL (szOf sz) l' p)).toArray⟩) (.slice A5 (entsAt 0 (addL (szOf sz) l' p)).length c5)
            generalize ((w'.setCell ⟨nb, 0, none⟩ (.int .i64 (szOf sz))).setCell ⟨nb, 1, none⟩ (.string ⟨(pcText (addL (szOf sz) l' p)).toArray⟩)).setCell ⟨nb, 2, none⟩ (.slice A5 (entsAt 0 (addL (szOf sz) l' p)).length c5) = w4 at hT hF3 ⊢
            have hno : ∀ rv' j, adR w1.heap.size wr.heap.size (szOf sz) l' p (.slice A2 (entsAt 0 l').length m2) rv' w' → rv'.ownBlock = some j → ¬ j = nb := fun rv' j hr hj he => by
              obtain ⟨_, cs, h1⟩ := row_typed hr.1 hj
              exact obj_ne h1 HNH.out (by decide) he
            exact hK (.pointer (some ⟨nb, 0, none⟩)) w4 (hS.s28 h26 d0 hnb HNH.out hF3) ⟨nb, _, rfl, hnb, hT, hr.fr hF3 (fun j hj => hno _ j hr hj)⟩ (fun j u hj h => adV7.fr hF3 hno (fun _ nb' z0 z1 z2 h' => by
              by_cases hn' : nb' = nb
              · subst hn'
                exact ⟨_, _, _, hT⟩
              · exact ⟨_, _, _, hF3.obj h' hn'⟩) (fun he => absurd he hj) (fun _ nb' cs h' => obj_ne h' HNH.out (by decide)) h)
          · intro d x w' hS hdi hd hdd K hK
            obtain ⟨nb, d0', hnb⟩ : adV7 w1.heap.size w3.heap.size k a l.length c p wr.heap.size (szOf sz) l' (.slice A2 (entsAt 0 l').length m2) 27 (x 27) w' := hd _ List.mem_cons_self
            have d1 : x 24 = entV (addE (szOf sz) l' p) := hd _ (List.mem_cons_of_mem _ List.mem_cons_self)
            have h27 : d 27 = true := by first | exact hdd _ List.mem_cons_self | exact hdd _ (List.mem_cons_of_mem _ List.mem_cons_self) | exact hdd _ (List.mem_cons_of_mem _ (List.mem_cons_of_mem _ List.mem_cons_self)) | exact hdd _ (List.mem_cons_of_mem _ (List.mem_cons_of_mem _ (List.mem_cons_of_mem _ List.mem_cons_self)))
            obtain ⟨nb2, d0, hnh⟩ := hS.2.1 h27 hdi
            have e9 : nb2 = nb := by
              rw [d0'] at d0
              cases d0
              rfl
            rw [e9] at d0 hnh
            refine ⟨rfl, ?_⟩
            unfold adA7 at hK ⊢
            simp only [d0, d1] at hK ⊢
            unfold entV
            have q0 := obj_cell hnh 0
            have q1 := obj_cell hnh 1
            have q2 := obj_cell hnh 2
            have q3 := obj_cell hnh 3
            have q4 := obj_cell hnh 4
            have f0 := obj_frozen hnh 0
            have f1 := obj_frozen hnh 1
            have f2 := obj_frozen hnh 2
            have f3 := obj_frozen hnh 3
            have f4 := obj_frozen hnh 4
            simp only [List.getElem?_toArray, List.getElem?_cons_zero, List.getElem?_cons_succ] at q0 q1 q2 q3 q4
            have HNH := hide hnh
            clear hnh
            go_wp2
            have hT := five_setT HNH.out (.int .i64 (addE (szOf sz) l' p).kind) (.int .i64 (addE (szOf sz) l' p).inode) (.int .i64 (addE (szOf sz) l' p).block) (.int .i64 (addE (szOf sz) l' p).pos) (.int .i64 (addE (szOf sz) l' p).len)
            have hF5 := five_fr (F := (· = nb)) (Fr.refl _ w') (fun _ => rfl) (v0 := .int .i64 (addE (szOf sz) l' p).kind) (v1 := .int .i64 (addE (szOf sz) l' p).inode) (v2 := .int .i64 (addE (szOf sz) l' p).block) (v3 := .int .i64 (addE (szOf sz) l' p).pos) (v4 := .int .i64 (addE (szOf sz) l' p).len)
            generalize ((((w'.setCell ⟨nb, 0, none⟩ (.int .i64 (addE (szOf sz) l' p).kind)).setCell ⟨nb, 1, none⟩ (.int .i64 (addE (szOf sz) l' p).inode)).setCell ⟨nb, 2, none⟩ (.int .i64 (addE (szOf sz) l' p).block)).setCell ⟨nb, 3, none⟩ (.int .i64 (addE (szOf sz) l' p).pos)).setCell ⟨nb, 4, none⟩ (.int .i64 (addE (szOf sz) l' p).len) = w4 at hT hF5 ⊢
            exact hK (.pointer (some ⟨nb, 0, none⟩)) w4 (hS.s29 h27 d0 hnb hF5) ⟨nb, rfl, hnb, hT⟩ (fun j u hj h => adV7.fr hF5 (fun rv' j hr hj he => adR.zero (HI.out.add p) HRN.out hr hnb HNH.out (he ▸ hj)) (fun _ nb' z0 z1 z2 h' => ⟨_, _, _, hF5.obj h' (obj_ne h' HNH.out (by decide))⟩) (fun _ nb' cs h' => obj_ne h' HNH.out (by decide)) (fun he => absurd he hj) h)
          · intro d x w' hS hdi hd hdd K hK
            have d0 : x 25 = .int .i64 (addC (szOf sz) l' p) := by first | exact hd _ List.mem_cons_self | exact hd _ (List.mem_cons_of_mem _ List.mem_cons_self) | exact hd _ (List.mem_cons_of_mem _ (List.mem_cons_of_mem _ List.mem_cons_self)) | exact hd _ (List.mem_cons_of_mem _ (List.mem_cons_of_mem _ (List.mem_cons_of_mem _ List.mem_cons_self))) | exact hd _ (List.mem_cons_of_mem _ (List.mem_cons_of_mem _ (List.mem_cons_of_mem _ (List.mem_cons_of_mem _ List.mem_cons_self))))
            refine ⟨rfl, ?_⟩
            unfold adA7 at hK ⊢
            simp only [d0] at hK ⊢
            go_wp2
            exact hK (.int .i64 (addC (szOf sz) l' p)) w' hS rfl (fun _ _ _ h => h)
        · intro d x w' hS hall hv
          have e30 : x 30 = .int .i64 (addC (szOf sz) l' p) := hv 30 (by decide)
          obtain ⟨n8, rv', e28, hn8, h8, hrow⟩ : adV7 w1.heap.size w3.heap.size k a l.length c p wr.heap.size (szOf sz) l' (.slice A2 (entsAt 0 l').length m2) 28 (x 28) w' := hv 28 (by decide)
          obtain ⟨n9, e29, hn9, h9⟩ : adV7 w1.heap.size w3.heap.size k a l.length c p wr.heap.size (szOf sz) l' (.slice A2 (entsAt 0 l').length m2) 29 (x 29) w' := hv 29 (by decide)
          have e26 : x 26 = .pointer (some ⟨n8, 0, none⟩) := (hS.2.2.1 (hall 28 (by decide))).2.symm.trans e28
          have e27 : x 27 = .pointer (some ⟨n9, 0, none⟩) := (hS.2.2.2 (hall 29 (by decide))).2.symm.trans e29
          have hS1 := hS.1
          clear hv hall hS
          unfold adA7
          simp only [e26, e27, e30]
          obtain ⟨A5, c5, rfl⟩ := row_slice hrow.1
          have HSB := hide (obj_below HR.out hS1)
          have b0 := obj_cell h8 0
          have b1 := obj_cell h8 1
          have b2 := obj_cell h8 2
          have r0 := obj_cell HSB.out 0
          have r1 := obj_cell HSB.out 1
          have r2 := obj_cell HSB.out 2
          have fr0 := obj_frozen HSB.out 0
          have fr1 := obj_frozen HSB.out 1
          have fr2 := obj_frozen HSB.out 2
          simp only [List.getElem?_toArray, List.getElem?_cons_zero, List.getElem?_cons_succ] at b0 b1 b2 r0 r1 r2
          have hsw := SgP.at HS.out hS1
          have hT := three_setT HSB.out (.int .i64 (szOf sz)) (.string ⟨(pcText (addL (szOf sz) l' p)).toArray⟩) (.slice A5 (entsAt 0 (addL (szOf sz) l' p)).length c5)
          have hF3 := three_fr (w := w') (g := w3.heap.size) (.int .i64 (szOf sz)) (.string ⟨(pcText (addL (szOf sz) l' p)).toArray⟩) (.slice A5 (entsAt 0 (addL (szOf sz) l' p)).length c5)
          obtain ⟨Ws, hWs⟩ : ∃ Ws, Ws = ((w'.setCell ⟨w3.heap.size, 0, none⟩ (.int .i64 (szOf sz))).setCell ⟨w3.heap.size, 1, none⟩ (.string ⟨(pcText (addL (szOf sz) l' p)).toArray⟩)).setCell ⟨w3.heap.size, 2, none⟩ (.slice A5 (entsAt 0 (addL (szOf sz) l' p)).length c5) := ⟨_, rfl⟩
          rw [← hWs] at hT hF3
          have HT := hide hT
          have h9s := hide (hF3.obj h9 (obj_ne h9 HSB.out (by decide)))
          have hrs := hide (hrow.fr hF3 (fun j hj he => by
            obtain ⟨_, cs, h1⟩ := row_typed hrow.1 hj
            exact obj_ne h1 HSB.out (by decide) he))
          have hss := hide (Sg.far hsw hF3 (fun j hj => ⟨_, _, _, hj ▸ HSB.out, by decide, by decide, fun h => by cases h⟩))
          have hbs := hide ((HB.out.trans (hS1.mono HZN.out)).trans (hF3.below w.heap.size (Nat.le_trans HZN.out hS1.size) (fun i hi e => by omega)))
          have HNS : Hid (∀ j, lv.ownBlock = some j → j < Ws.heap.size) := hide (fun j hj => by
            obtain ⟨_, h1⟩ := sg_own hss.out hj
            exact obj_lt h1)
          have HZS : Hid (w.heap.size ≤ Ws.heap.size) := hide hbs.out.size
          have HLN : Hid (∀ j, lv.ownBlock = some j → j < wr.heap.size) := hide (fun j hj => by
            obtain ⟨_, h1⟩ := sg_own HS.out hj
            exact obj_lt h1)
          have HD : Hid (∀ j, (Value.slice A5 (entsAt 0 (addL (szOf sz) l' p)).length c5).ownBlock = some j → lv.ownBlock ≠ some j) := hide (fun j hj he => by
            rcases hrow.2 j hj with h | ⟨h, _⟩
            · exact HNE.out j h he
            · have := HLN.out j he
              omega)
          have HL9 : Hid (lv.ownBlock ≠ some n9) := hide (fun he => by
            have := HLN.out _ he
            omega)
          clear hT hF3 hsw hS1 h9 hrow
          go_wp2_with fail
          rw [← hWs]
          clear hWs b0 b1 b2 r0 r1 r2 fr0 fr1 fr2 h8
          obtain ⟨uv, huv⟩ : ∃ uv : Nat → Value, uv = (fun j => if j = 53 then .agg #[.int .i64 (szOf sz), .string ⟨(pcText (addL (szOf sz) l' p)).toArray⟩, .slice A5 (entsAt 0 (addL (szOf sz) l' p)).length c5] else if 54 ≤ j then uu j else if j = 27 then x 22 else if j ≤ 26 then uu j else if j ≤ 49 then x (j - 28) else x (j - 27)) := ⟨_, rfl⟩
          refine wp_region_d (adA9 sz (szOf sz) (.slice (some a) l.length c) w1.heap.size w3.heap.size k l.length n8 n9 (addC (szOf sz) l' p) uv) (fun j => if j = 25 then uu 11 else if j = 27 then uu 12 else if j = 22 then uu 54 else if j = 23 then uu 77 else if j = 24 then uu 78 else uu (55 + j))
            (A9S w Ws.heap.size w1.heap.size w3.heap.size n9 (szOf sz) l' p lv (.slice A5 (entsAt 0 (addL (szOf sz) l' p)).length c5) #[.int .i64 (szOf sz), .string ⟨(pcText (addL (szOf sz) l' p)).toArray⟩, .slice A5 (entsAt 0 (addL (szOf sz) l' p)).length c5] #[.int .i64 (addE (szOf sz) l' p).kind, .int .i64 (addE (szOf sz) l' p).inode, .int .i64 (addE (szOf sz) l' p).block, .int .i64 (addE (szOf sz) l' p).pos, .int .i64 (addE (szOf sz) l' p).len])
            (BkV w1.heap.size k a l.length c p Ws.heap.size (szOf sz) l') rfl (by kernel_rfl) (by rw [huv]; rfl)
            ⟨lv, .inl ⟨rfl, rfl, hss.out⟩, hrs.out.1, HD.out, HT.out, h9s.out, HL9.out, (fun h => by cases h), (fun h => by cases h), ⟨hbs.out.os, hbs.out.tape, hbs.out.output, hbs.out.size, hbs.out.block⟩, Nat.le_refl _⟩ ?_ ?_ ?_
          all_goals clear huv
          · exact ⟨fun x v => rfl, fun x v => rfl, fun x v => rfl, fun x v => rfl, fun x v => rfl, fun x v => rfl, fun x v => rfl, fun x v => rfl, fun x v => rfl, fun x v => rfl, fun x v => rfl, fun x v => rfl, fun x v => rfl, fun x v => rfl, fun x v => rfl, fun x v => rfl, fun x v => rfl, fun x v => rfl, fun x v => rfl, fun x v => rfl, fun x v => rfl, fun x v => rfl, fun x v => rfl, fun x v => rfl, fun x v => rfl, fun x v => rfl, fun x v => rfl, fun x v => rfl, trivial⟩
          · refine ⟨?_, ?_, ?_, ?_, ?_, ?_, ?_, ?_, ?_, ?_, ?_, ?_, ?_, ?_, ?_, ?_, ?_, ?_, ?_, ?_, ?_, ?_, ?_, ?_, ?_, ?_, ?_, ?_, trivial⟩
            · intro d x w' hS hdi hd hdd K hK
              refine ⟨rfl, ?_⟩
              unfold adA9 at hK ⊢
              go_wp2
              exact hK (.pointer (some ⟨w1.heap.size, 0, none⟩)) w' hS rfl (fun _ _ _ h => h)
            · intro d x w' hS hdi hd hdd K hK
              refine ⟨rfl, ?_⟩
              unfold adA9 at hK ⊢
              go_wp2
              exact hK (.slice (some a) l.length c) w' hS rfl (fun _ _ _ h => h)
            · intro d x w' hS hdi hd hdd K hK
              refine ⟨rfl, ?_⟩
              unfold adA9 at hK ⊢
              go_wp2
              exact hK (.int .i64 (k : Int)) w' hS rfl (fun _ _ _ h => h)
            · intro d x w' hS hdi hd hdd K hK
              have d0 : x 1 = .slice (some a) l.length c := by first | exact hd _ List.mem_cons_self | exact hd _ (List.mem_cons_of_mem _ List.mem_cons_self) | exact hd _ (List.mem_cons_of_mem _ (List.mem_cons_of_mem _ List.mem_cons_self)) | exact hd _ (List.mem_cons_of_mem _ (List.mem_cons_of_mem _ (List.mem_cons_of_mem _ List.mem_cons_self))) | exact hd _ (List.mem_cons_of_mem _ (List.mem_cons_of_mem _ (List.mem_cons_of_mem _ (List.mem_cons_of_mem _ List.mem_cons_self))))
              have d1 : x 2 = .int .i64 (k : Int) := by first | exact hd _ List.mem_cons_self | exact hd _ (List.mem_cons_of_mem _ List.mem_cons_self) | exact hd _ (List.mem_cons_of_mem _ (List.mem_cons_of_mem _ List.mem_cons_self)) | exact hd _ (List.mem_cons_of_mem _ (List.mem_cons_of_mem _ (List.mem_cons_of_mem _ List.mem_cons_self))) | exact hd _ (List.mem_cons_of_mem _ (List.mem_cons_of_mem _ (List.mem_cons_of_mem _ (List.mem_cons_of_mem _ List.mem_cons_self))))
              refine ⟨rfl, ?_⟩
              unfold adA9 at hK ⊢
              simp only [d0, d1] at hK ⊢
              go_wp2
              exact hK (.pointer (some (a.add (k * 4)))) w' hS rfl (fun _ _ _ h => h)
            · intro d x w' hS hdi hd hdd K hK
              have d0 : x 3 = .pointer (some (a.add (k * 4))) := by first | exact hd _ List.mem_cons_self | exact hd _ (List.mem_cons_of_mem _ List.mem_cons_self) | exact hd _ (List.mem_cons_of_mem _ (List.mem_cons_of_mem _ List.mem_cons_self)) | exact hd _ (List.mem_cons_of_mem _ (List.mem_cons_of_mem _ (List.mem_cons_of_mem _ List.mem_cons_self))) | exact hd _ (List.mem_cons_of_mem _ (List.mem_cons_of_mem _ (List.mem_cons_of_mem _ (List.mem_cons_of_mem _ List.mem_cons_self))))
              refine ⟨rfl, ?_⟩
              unfold adA9 at hK ⊢
              simp only [d0] at hK ⊢
              go_wp2
              exact hK (.pointer (some (a.add (k * 4)))) w' hS rfl (fun _ _ _ h => h)
            · intro d x w' hS hdi hd hdd K hK
              have d0 : x 4 = .pointer (some (a.add (k * 4))) := by first | exact hd _ List.mem_cons_self | exact hd _ (List.mem_cons_of_mem _ List.mem_cons_self) | exact hd _ (List.mem_cons_of_mem _ (List.mem_cons_of_mem _ List.mem_cons_self)) | exact hd _ (List.mem_cons_of_mem _ (List.mem_cons_of_mem _ (List.mem_cons_of_mem _ List.mem_cons_self))) | exact hd _ (List.mem_cons_of_mem _ (List.mem_cons_of_mem _ (List.mem_cons_of_mem _ (List.mem_cons_of_mem _ List.mem_cons_self))))
              refine ⟨rfl, ?_⟩
              unfold adA9 at hK ⊢
              simp only [d0] at hK ⊢
              have z := ((hS.low).cell (World.block_lt_of_cell? _ _ C0.out)).trans C0.out
              go_wp2
              exact hK (.int .i64 p.kind) w' hS rfl (fun _ _ _ h => h)
            · intro d x w' hS hdi hd hdd K hK
              refine ⟨rfl, ?_⟩
              unfold adA9 at hK ⊢
              go_wp2
              exact hK (.slice (some a) l.length c) w' hS rfl (fun _ _ _ h => h)
            · intro d x w' hS hdi hd hdd K hK
              refine ⟨rfl, ?_⟩
              unfold adA9 at hK ⊢
              go_wp2
              exact hK (.int .i64 (k : Int)) w' hS rfl (fun _ _ _ h => h)
            · intro d x w' hS hdi hd hdd K hK
              have d0 : x 6 = .slice (some a) l.length c := by first | exact hd _ List.mem_cons_self | exact hd _ (List.mem_cons_of_mem _ List.mem_cons_self) | exact hd _ (List.mem_cons_of_mem _ (List.mem_cons_of_mem _ List.mem_cons_self)) | exact hd _ (List.mem_cons_of_mem _ (List.mem_cons_of_mem _ (List.mem_cons_of_mem _ List.mem_cons_self))) | exact hd _ (List.mem_cons_of_mem _ (List.mem_cons_of_mem _ (List.mem_cons_of_mem _ (List.mem_cons_of_mem _ List.mem_cons_self))))
              have d1 : x 7 = .int .i64 (k : Int) := by first | exact hd _ List.mem_cons_self | exact hd _ (List.mem_cons_of_mem _ List.mem_cons_self) | exact hd _ (List.mem_cons_of_mem _ (List.mem_cons_of_mem _ List.mem_cons_self)) | exact hd _ (List.mem_cons_of_mem _ (List.mem_cons_of_mem _ (List.mem_cons_of_mem _ List.mem_cons_self))) | exact hd _ (List.mem_cons_of_mem _ (List.mem_cons_of_mem _ (List.mem_cons_of_mem _ (List.mem_cons_of_mem _ List.mem_cons_self))))
              refine ⟨rfl, ?_⟩
              unfold adA9 at hK ⊢
              simp only [d0, d1] at hK ⊢
              go_wp2
              exact hK (.pointer (some (a.add (k * 4)))) w' hS rfl (fun _ _ _ h => h)
            · intro d x w' hS hdi hd hdd K hK
              have d0 : x 8 = .pointer (some (a.add (k * 4))) := by first | exact hd _ List.mem_cons_self | exact hd _ (List.mem_cons_of_mem _ List.mem_cons_self) | exact hd _ (List.mem_cons_of_mem _ (List.mem_cons_of_mem _ List.mem_cons_self)) | exact hd _ (List.mem_cons_of_mem _ (List.mem_cons_of_mem _ (List.mem_cons_of_mem _ List.mem_cons_self))) | exact hd _ (List.mem_cons_of_mem _ (List.mem_cons_of_mem _ (List.mem_cons_of_mem _ (List.mem_cons_of_mem _ List.mem_cons_self))))
              refine ⟨rfl, ?_⟩
              unfold adA9 at hK ⊢
              simp only [d0] at hK ⊢
              go_wp2
              exact hK (.pointer (some ⟨(a.add (k * 4)).block, (a.add (k * 4)).off + 1, none⟩)) w' hS rfl (fun _ _ _ h => h)
            · intro d x w' hS hdi hd hdd K hK
              have d0 : x 9 = .pointer (some ⟨(a.add (k * 4)).block, (a.add (k * 4)).off + 1, none⟩) := by first | exact hd _ List.mem_cons_self | exact hd _ (List.mem_cons_of_mem _ List.mem_cons_self) | exact hd _ (List.mem_cons_of_mem _ (List.mem_cons_of_mem _ List.mem_cons_self)) | exact hd _ (List.mem_cons_of_mem _ (List.mem_cons_of_mem _ (List.mem_cons_of_mem _ List.mem_cons_self))) | exact hd _ (List.mem_cons_of_mem _ (List.mem_cons_of_mem _ (List.mem_cons_of_mem _ (List.mem_cons_of_mem _ List.mem_cons_self))))
              refine ⟨rfl, ?_⟩
              unfold adA9 at hK ⊢
              simp only [d0] at hK ⊢
              have z := ((hS.low).cell (World.block_lt_of_cell? _ _ C1.out)).trans C1.out
              go_wp2
              exact hK (.int .i64 p.inode) w' hS rfl (fun _ _ _ h => h)
            · intro d x w' hS hdi hd hdd K hK
              refine ⟨rfl, ?_⟩
              unfold adA9 at hK ⊢
              go_wp2
              exact hK (.slice (some a) l.length c) w' hS rfl (fun _ _ _ h => h)
            · intro d x w' hS hdi hd hdd K hK
              refine ⟨rfl, ?_⟩
              unfold adA9 at hK ⊢
              go_wp2
              exact hK (.int .i64 (k : Int)) w' hS rfl (fun _ _ _ h => h)
            · intro d x w' hS hdi hd hdd K hK
              have d0 : x 11 = .slice (some a) l.length c := by first | exact hd _ List.mem_cons_self | exact hd _ (List.mem_cons_of_mem _ List.mem_cons_self) | exact hd _ (List.mem_cons_of_mem _ (List.mem_cons_of_mem _ List.mem_cons_self)) | exact hd _ (List.mem_cons_of_mem _ (List.mem_cons_of_mem _ (List.mem_cons_of_mem _ List.mem_cons_self))) | exact hd _ (List.mem_cons_of_mem _ (List.mem_cons_of_mem _ (List.mem_cons_of_mem _ (List.mem_cons_of_mem _ List.mem_cons_self))))
              have d1 : x 12 = .int .i64 (k : Int) := by first | exact hd _ List.mem_cons_self | exact hd _ (List.mem_cons_of_mem _ List.mem_cons_self) | exact hd _ (List.mem_cons_of_mem _ (List.mem_cons_of_mem _ List.mem_cons_self)) | exact hd _ (List.mem_cons_of_mem _ (List.mem_cons_of_mem _ (List.mem_cons_of_mem _ List.mem_cons_self))) | exact hd _ (List.mem_cons_of_mem _ (List.mem_cons_of_mem _ (List.mem_cons_of_mem _ (List.mem_cons_of_mem _ List.mem_cons_self))))
              refine ⟨rfl, ?_⟩
              unfold adA9 at hK ⊢
              simp only [d0, d1] at hK ⊢
              go_wp2
              exact hK (.pointer (some (a.add (k * 4)))) w' hS rfl (fun _ _ _ h => h)
            · intro d x w' hS hdi hd hdd K hK
              have d0 : x 13 = .pointer (some (a.add (k * 4))) := by first | exact hd _ List.mem_cons_self | exact hd _ (List.mem_cons_of_mem _ List.mem_cons_self) | exact hd _ (List.mem_cons_of_mem _ (List.mem_cons_of_mem _ List.mem_cons_self)) | exact hd _ (List.mem_cons_of_mem _ (List.mem_cons_of_mem _ (List.mem_cons_of_mem _ List.mem_cons_self))) | exact hd _ (List.mem_cons_of_mem _ (List.mem_cons_of_mem _ (List.mem_cons_of_mem _ (List.mem_cons_of_mem _ List.mem_cons_self))))
              refine ⟨rfl, ?_⟩
              unfold adA9 at hK ⊢
              simp only [d0] at hK ⊢
              go_wp2
              exact hK (.pointer (some ⟨(a.add (k * 4)).block, (a.add (k * 4)).off + 2, none⟩)) w' hS rfl (fun _ _ _ h => h)
            · intro d x w' hS hdi hd hdd K hK
              have d0 : x 14 = .pointer (some ⟨(a.add (k * 4)).block, (a.add (k * 4)).off + 2, none⟩) := by first | exact hd _ List.mem_cons_self | exact hd _ (List.mem_cons_of_mem _ List.mem_cons_self) | exact hd _ (List.mem_cons_of_mem _ (List.mem_cons_of_mem _ List.mem_cons_self)) | exact hd _ (List.mem_cons_of_mem _ (List.mem_cons_of_mem _ (List.mem_cons_of_mem _ List.mem_cons_self))) | exact hd _ (List.mem_cons_of_mem _ (List.mem_cons_of_mem _ (List.mem_cons_of_mem _ (List.mem_cons_of_mem _ List.mem_cons_self))))
              refine ⟨rfl, ?_⟩
              unfold adA9 at hK ⊢
              simp only [d0] at hK ⊢
              have z := ((hS.low).cell (World.block_lt_of_cell? _ _ C2.out)).trans C2.out
              go_wp2
              exact hK (.int .i64 p.block) w' hS rfl (fun _ _ _ h => h)
            · intro d x w' hS hdi hd hdd K hK
              refine ⟨rfl, ?_⟩
              unfold adA9 at hK ⊢
              go_wp2
              exact hK (.slice (some a) l.length c) w' hS rfl (fun _ _ _ h => h)
            · intro d x w' hS hdi hd hdd K hK
              refine ⟨rfl, ?_⟩
              unfold adA9 at hK ⊢
              go_wp2
              exact hK (.int .i64 (k : Int)) w' hS rfl (fun _ _ _ h => h)
            · intro d x w' hS hdi hd hdd K hK
              have d0 : x 16 = .slice (some a) l.length c := by first | exact hd _ List.mem_cons_self | exact hd _ (List.mem_cons_of_mem _ List.mem_cons_self) | exact hd _ (List.mem_cons_of_mem _ (List.mem_cons_of_mem _ List.mem_cons_self)) | exact hd _ (List.mem_cons_of_mem _ (List.mem_cons_of_mem _ (List.mem_cons_of_mem _ List.mem_cons_self))) | exact hd _ (List.mem_cons_of_mem _ (List.mem_cons_of_mem _ (List.mem_cons_of_mem _ (List.mem_cons_of_mem _ List.mem_cons_self))))
              have d1 : x 17 = .int .i64 (k : Int) := by first | exact hd _ List.mem_cons_self | exact hd _ (List.mem_cons_of_mem _ List.mem_cons_self) | exact hd _ (List.mem_cons_of_mem _ (List.mem_cons_of_mem _ List.mem_cons_self)) | exact hd _ (List.mem_cons_of_mem _ (List.mem_cons_of_mem _ (List.mem_cons_of_mem _ List.mem_cons_self))) | exact hd _ (List.mem_cons_of_mem _ (List.mem_cons_of_mem _ (List.mem_cons_of_mem _ (List.mem_cons_of_mem _ List.mem_cons_self))))
              refine ⟨rfl, ?_⟩
              unfold adA9 at hK ⊢
              simp only [d0, d1] at hK ⊢
              go_wp2
              exact hK (.pointer (some (a.add (k * 4)))) w' hS rfl (fun _ _ _ h => h)
            · intro d x w' hS hdi hd hdd K hK
              have d0 : x 18 = .pointer (some (a.add (k * 4))) := by first | exact hd _ List.mem_cons_self | exact hd _ (List.mem_cons_of_mem _ List.mem_cons_self) | exact hd _ (List.mem_cons_of_mem _ (List.mem_cons_of_mem _ List.mem_cons_self)) | exact hd _ (List.mem_cons_of_mem _ (List.mem_cons_of_mem _ (List.mem_cons_of_mem _ List.mem_cons_self))) | exact hd _ (List.mem_cons_of_mem _ (List.mem_cons_of_mem _ (List.mem_cons_of_mem _ (List.mem_cons_of_mem _ List.mem_cons_self))))
              refine ⟨rfl, ?_⟩
              unfold adA9 at hK ⊢
              simp only [d0] at hK ⊢
              go_wp2
              exact hK (.pointer (some ⟨(a.add (k * 4)).block, (a.add (k * 4)).off + 3, none⟩)) w' hS rfl (fun _ _ _ h => h)
            · intro d x w' hS hdi hd hdd K hK
              have d0 : x 19 = .pointer (some ⟨(a.add (k * 4)).block, (a.add (k * 4)).off + 3, none⟩) := by first | exact hd _ List.mem_cons_self | exact hd _ (List.mem_cons_of_mem _ List.mem_cons_self) | exact hd _ (List.mem_cons_of_mem _ (List.mem_cons_of_mem _ List.mem_cons_self)) | exact hd _ (List.mem_cons_of_mem _ (List.mem_cons_of_mem _ (List.mem_cons_of_mem _ List.mem_cons_self))) | exact hd _ (List.mem_cons_of_mem _ (List.mem_cons_of_mem _ (List.mem_cons_of_mem _ (List.mem_cons_of_mem _ List.mem_cons_self))))
              refine ⟨rfl, ?_⟩
              unfold adA9 at hK ⊢
              simp only [d0] at hK ⊢
              have z := ((hS.low).cell (World.block_lt_of_cell? _ _ C3.out)).trans C3.out
              go_wp2
              exact hK (.string p.body) w' hS rfl (fun _ _ _ h => h)
            · intro d x w' hS hdi hd hdd K hK
              have d0 : x 0 = .pointer (some ⟨w1.heap.size, 0, none⟩) := by first | exact hd _ List.mem_cons_self | exact hd _ (List.mem_cons_of_mem _ List.mem_cons_self) | exact hd _ (List.mem_cons_of_mem _ (List.mem_cons_of_mem _ List.mem_cons_self)) | exact hd _ (List.mem_cons_of_mem _ (List.mem_cons_of_mem _ (List.mem_cons_of_mem _ List.mem_cons_self))) | exact hd _ (List.mem_cons_of_mem _ (List.mem_cons_of_mem _ (List.mem_cons_of_mem _ (List.mem_cons_of_mem _ List.mem_cons_self))))
              have d1 : x 5 = .int .i64 p.kind := by first | exact hd _ List.mem_cons_self | exact hd _ (List.mem_cons_of_mem _ List.mem_cons_self) | exact hd _ (List.mem_cons_of_mem _ (List.mem_cons_of_mem _ List.mem_cons_self)) | exact hd _ (List.mem_cons_of_mem _ (List.mem_cons_of_mem _ (List.mem_cons_of_mem _ List.mem_cons_self))) | exact hd _ (List.mem_cons_of_mem _ (List.mem_cons_of_mem _ (List.mem_cons_of_mem _ (List.mem_cons_of_mem _ List.mem_cons_self))))
              have d2 : x 10 = .int .i64 p.inode := by first | exact hd _ List.mem_cons_self | exact hd _ (List.mem_cons_of_mem _ List.mem_cons_self) | exact hd _ (List.mem_cons_of_mem _ (List.mem_cons_of_mem _ List.mem_cons_self)) | exact hd _ (List.mem_cons_of_mem _ (List.mem_cons_of_mem _ (List.mem_cons_of_mem _ List.mem_cons_self))) | exact hd _ (List.mem_cons_of_mem _ (List.mem_cons_of_mem _ (List.mem_cons_of_mem _ (List.mem_cons_of_mem _ List.mem_cons_self))))
              have d3 : x 15 = .int .i64 p.block := by first | exact hd _ List.mem_cons_self | exact hd _ (List.mem_cons_of_mem _ List.mem_cons_self) | exact hd _ (List.mem_cons_of_mem _ (List.mem_cons_of_mem _ List.mem_cons_self)) | exact hd _ (List.mem_cons_of_mem _ (List.mem_cons_of_mem _ (List.mem_cons_of_mem _ List.mem_cons_self))) | exact hd _ (List.mem_cons_of_mem _ (List.mem_cons_of_mem _ (List.mem_cons_of_mem _ (List.mem_cons_of_mem _ List.mem_cons_self))))
              have d4 : x 20 = .string p.body := by first | exact hd _ List.mem_cons_self | exact hd _ (List.mem_cons_of_mem _ List.mem_cons_self) | exact hd _ (List.mem_cons_of_mem _ (List.mem_cons_of_mem _ List.mem_cons_self)) | exact hd _ (List.mem_cons_of_mem _ (List.mem_cons_of_mem _ (List.mem_cons_of_mem _ List.mem_cons_self))) | exact hd _ (List.mem_cons_of_mem _ (List.mem_cons_of_mem _ (List.mem_cons_of_mem _ (List.mem_cons_of_mem _ List.mem_cons_self))))
              refine ⟨rfl, ?_⟩
              unfold adA9 at hK ⊢
              simp only [d0, d1, d2, d3, d4] at hK ⊢
              go_wp2_with fail
              obtain ⟨lv1, hst, ha1, hn1, hsb1, h91, hl91, h25, h26, hb, hN⟩ := hS
              have hst1 : lv1 = lv ∧ SgP w' w1.heap.size (szOf sz) l' lv1 := by
                rcases hst with ⟨_, h1, h2⟩ | ⟨h1, _⟩
                · exact ⟨h1, h2⟩
                · rw [hdi] at h1
                  cases h1
              obtain ⟨rfl, hsg⟩ := hst1
              refine (addP w1.heap.size (szOf sz) l' lv1 p _ hsg HI.out hsz0 hsz1).mono ?_
              rintro e w6 ⟨rfl, lv3, hs3, hf3, hl3⟩
              exact hK (.tuple #[entV (addE (szOf sz) l' p), .int .i64 (addC (szOf sz) l' p)]) w6 (a9_add hsg ha1 hn1 hsb1 h91 hl91 h25 h26 hb hN hs3 hf3 hl3 hg) rfl (fun j u _ h => BkV.add HNS.out hsg hf3 h)
            · intro d x w' hS hdi hd hdd K hK
              have d0 : x 21 = .tuple #[entV (addE (szOf sz) l' p), .int .i64 (addC (szOf sz) l' p)] := by first | exact hd _ List.mem_cons_self | exact hd _ (List.mem_cons_of_mem _ List.mem_cons_self) | exact hd _ (List.mem_cons_of_mem _ (List.mem_cons_of_mem _ List.mem_cons_self)) | exact hd _ (List.mem_cons_of_mem _ (List.mem_cons_of_mem _ (List.mem_cons_of_mem _ List.mem_cons_self))) | exact hd _ (List.mem_cons_of_mem _ (List.mem_cons_of_mem _ (List.mem_cons_of_mem _ (List.mem_cons_of_mem _ List.mem_cons_self))))
              refine ⟨rfl, ?_⟩
              unfold adA9 at hK ⊢
              simp only [d0] at hK ⊢
              go_wp2
              exact hK (.tuple #[entV (addE (szOf sz) l' p), .int .i64 (addC (szOf sz) l' p)]) w' hS rfl (fun _ _ _ h => h)
            · intro d x w' hS hdi hd hdd K hK
              have d0 : x 22 = .tuple #[entV (addE (szOf sz) l' p), .int .i64 (addC (szOf sz) l' p)] := by first | exact hd _ List.mem_cons_self | exact hd _ (List.mem_cons_of_mem _ List.mem_cons_self) | exact hd _ (List.mem_cons_of_mem _ (List.mem_cons_of_mem _ List.mem_cons_self)) | exact hd _ (List.mem_cons_of_mem _ (List.mem_cons_of_mem _ (List.mem_cons_of_mem _ List.mem_cons_self))) | exact hd _ (List.mem_cons_of_mem _ (List.mem_cons_of_mem _ (List.mem_cons_of_mem _ (List.mem_cons_of_mem _ List.mem_cons_self))))
              refine ⟨rfl, ?_⟩
              unfold adA9 at hK ⊢
              simp only [d0] at hK ⊢
              go_wp2
              exact hK (entV (addE (szOf sz) l' p)) w' hS rfl (fun _ _ _ h => h)
            · intro d x w' hS hdi hd hdd K hK
              have d0 : x 22 = .tuple #[entV (addE (szOf sz) l' p), .int .i64 (addC (szOf sz) l' p)] := by first | exact hd _ List.mem_cons_self | exact hd _ (List.mem_cons_of_mem _ List.mem_cons_self) | exact hd _ (List.mem_cons_of_mem _ (List.mem_cons_of_mem _ List.mem_cons_self)) | exact hd _ (List.mem_cons_of_mem _ (List.mem_cons_of_mem _ (List.mem_cons_of_mem _ List.mem_cons_self))) | exact hd _ (List.mem_cons_of_mem _ (List.mem_cons_of_mem _ (List.mem_cons_of_mem _ (List.mem_cons_of_mem _ List.mem_cons_self))))
              refine ⟨rfl, ?_⟩
              unfold adA9 at hK ⊢
              simp only [d0] at hK ⊢
              go_wp2
              exact hK (.int .i64 (addC (szOf sz) l' p)) w' hS rfl (fun _ _ _ h => h)
            · intro d x w' hS hdi hd hdd K hK
              refine ⟨rfl, ?_⟩
              unfold adA9 at hK ⊢
              go_wp2
              exact hK (.pointer (some ⟨w'.heap.size, 0, none⟩)) _ (a9_alloc hS hdi _) ⟨_, _, _, _, _, _, rfl, hS.size, obj_new _ _⟩ (fun j u _ h => BkV.low ((Below.refl _ _).alloc (Nat.le_refl _) _) h)
            · intro d x w' hS hdi hd hdd K hK
              obtain ⟨nb, y0, y1, y2, y3, y4, d0, hnb, hnh⟩ : BkV w1.heap.size k a l.length c p Ws.heap.size (szOf sz) l' 25 (x 25) w' := hd _ List.mem_cons_self
              have d1 : x 23 = entV (addE (szOf sz) l' p) := hd _ (List.mem_cons_of_mem _ List.mem_cons_self)
              have h21 : d 21 = true := hdd _ (List.mem_cons_of_mem _ (List.mem_cons_of_mem _ List.mem_cons_self))
              have h25 : d 25 = true := hdd _ List.mem_cons_self
              refine ⟨rfl, ?_⟩
              unfold adA9 at hK ⊢
              simp only [d0, d1] at hK ⊢
              unfold entV
              have z0 := obj_cell hnh 0
              have z1 := obj_cell hnh 1
              have z2 := obj_cell hnh 2
              have z3 := obj_cell hnh 3
              have z4 := obj_cell hnh 4
              have f0 := obj_frozen hnh 0
              have f1 := obj_frozen hnh 1
              have f2 := obj_frozen hnh 2
              have f3 := obj_frozen hnh 3
              have f4 := obj_frozen hnh 4
              simp only [List.getElem?_toArray, List.getElem?_cons_zero, List.getElem?_cons_succ] at z0 z1 z2 z3 z4
              have HNH := hide hnh
              clear hnh
              go_wp2
              have hT := five_setT HNH.out (.int .i64 (addE (szOf sz) l' p).kind) (.int .i64 (addE (szOf sz) l' p).inode) (.int .i64 (addE (szOf sz) l' p).block) (.int .i64 (addE (szOf sz) l' p).pos) (.int .i64 (addE (szOf sz) l' p).len)
              have hF5 := five_fr (F := (· = nb)) (Fr.refl _ w') (fun _ => rfl) (v0 := .int .i64 (addE (szOf sz) l' p).kind) (v1 := .int .i64 (addE (szOf sz) l' p).inode) (v2 := .int .i64 (addE (szOf sz) l' p).block) (v3 := .int .i64 (addE (szOf sz) l' p).pos) (v4 := .int .i64 (addE (szOf sz) l' p).len)
              generalize ((((w'.setCell ⟨nb, 0, none⟩ (.int .i64 (addE (szOf sz) l' p).kind)).setCell ⟨nb, 1, none⟩ (.int .i64 (addE (szOf sz) l' p).inode)).setCell ⟨nb, 2, none⟩ (.int .i64 (addE (szOf sz) l' p).block)).setCell ⟨nb, 3, none⟩ (.int .i64 (addE (szOf sz) l' p).pos)).setCell ⟨nb, 4, none⟩ (.int .i64 (addE (szOf sz) l' p).len) = w6 at hT hF5 ⊢
              exact hK (.pointer (some ⟨nb, 0, none⟩)) w6 (a9_store hS h21 h25 HZS.out d0 HNH.out hF5) ⟨nb, rfl, hnb, hT⟩ (fun j u hj h => BkV.store hF5 hT hj h)
            · intro d x w' hS hdi hd hdd K hK
              have d0 : x 24 = .int .i64 (addC (szOf sz) l' p) := by first | exact hd _ List.mem_cons_self | exact hd _ (List.mem_cons_of_mem _ List.mem_cons_self) | exact hd _ (List.mem_cons_of_mem _ (List.mem_cons_of_mem _ List.mem_cons_self)) | exact hd _ (List.mem_cons_of_mem _ (List.mem_cons_of_mem _ (List.mem_cons_of_mem _ List.mem_cons_self))) | exact hd _ (List.mem_cons_of_mem _ (List.mem_cons_of_mem _ (List.mem_cons_of_mem _ (List.mem_cons_of_mem _ List.mem_cons_self))))
              refine ⟨rfl, ?_⟩
              unfold adA9 at hK ⊢
              simp only [d0] at hK ⊢
              go_wp2
              exact hK (.int .i64 (addC (szOf sz) l' p)) w' hS rfl (fun _ _ _ h => h)
          · intro d y w4 hS hall hv
            have e27 : y 27 = .int .i64 (addC (szOf sz) l' p) := hv 27 (by decide)
            obtain ⟨nb, e26, hnb, hnh⟩ : BkV w1.heap.size k a l.length c p Ws.heap.size (szOf sz) l' 26 (y 26) w4 := hv 26 (by decide)
            obtain ⟨lv1, hst, ha1, hn1, hsb1, h91, hl91, h25, h26, hb, hN⟩ := hS
            have e25 : y 25 = .pointer (some ⟨nb, 0, none⟩) := (h26 (hall 26 (by decide))).2.symm.trans e26
            have hs1 : SgP w4 w1.heap.size (szOf sz) (addL (szOf sz) l' p) lv1 := by
              rcases hst with ⟨h1, _⟩ | ⟨_, h1⟩
              · rw [hall 21 (by decide)] at h1
                cases h1
              · exact h1
            have hI2 := HI.out.add p
            have hal := addL_len (szOf sz) l' p
            unfold adA9
            simp only [e25, e27]
            clear hst h25 h26 hall hv e26 hN e25 e27
            generalize addL (szOf sz) l' p = L2 at *
            generalize addE (szOf sz) l' p = E at *
            generalize addC (szOf sz) l' p = cc at *
            have HNB := hide hnh
            have HN9 := hide h91
            have HSB4 := hide hsb1
            have HS1 := hide hs1
            have HA1 := hide ha1
            have HN1 := hide hn1
            have HB4 := hide hb
            have HI2 := hide hI2
            have hbd := hI2.bounds hsz1
            have hel2 := entsAt_len 0 L2
            have CR : Hid (∀ W : World, Below w4.heap.size w4 W → Calls Try.prog 57 #[.pointer (some ⟨w1.heap.size, 0, none⟩)] W fun e w' => e = .returned (.int .i64 (max (leftOf (szOf sz) (pcText L2).length (entsAt 0 L2).length) 0)) ∧ Below W.heap.size W w') := hide (fun W hW => room_any w1.heap.size (szOf sz) (pcText L2) (entsAt 0 L2) lv1 W (Sg.below HS1.out hW) (by omega) hsz1 (by omega) (by omega))
            have CL : Hid (∀ W : World, Below w4.heap.size w4 W → Calls Try.prog 59 #[.pointer (some ⟨w1.heap.size, 0, none⟩)] W fun e w' => e = .returned (.int .i64 ((pcText L2).length : Int)) ∧ Below W.heap.size W w') := hide (fun W hW => len_any w1.heap.size (szOf sz) (pcText L2) (entsAt 0 L2) lv1 W (Sg.below HS1.out hW))
            have CQ : Hid (∀ W : World, Calls Try.prog 58 #[.agg #[.int .i64 (szOf sz), .string ⟨(pcText L2).toArray⟩, .slice A5 (entsAt 0 L2).length c5]] W fun e w' => e = .returned (.int .i64 (max (leftOf (szOf sz) (pcText L2).length (entsAt 0 L2).length) 0)) ∧ Below W.heap.size W w') := hide (fun W => rRoom_walk (szOf sz) ⟨(pcText L2).toArray⟩ A5 (entsAt 0 L2).length c5 _ _ rfl rfl W (by omega) hsz1 (by rw [str_size]; omega) (by omega))
            have HQZ : Hid ((⟨(pcText L2).toArray⟩ : ByteArray).size = (pcText L2).length) := hide (str_size _)
            have HK1 := hide (show l.length - (k + 1) < l.length - k by omega)
            clear hnh h91 hsb1 hs1 ha1 hn1 hb hI2 hel2 HT h9s hrs hss hbs HNS HZS HLN HD HL9
            go_wp2_with fail
            obtain ⟨uw, huw⟩ : ∃ uw : Nat → Value, uw = (fun j => if j ≤ 53 then uv j else if j = 54 then y 22 else if j ≤ 76 then y (j - 55) else y (j - 54)) := ⟨_, rfl⟩
            refine wp_region_vals (adA10 sz (szOf sz) (.slice (some a) l.length c) w1.heap.size w3.heap.size k l.length n8 n9 nb cc uw) (fun j => uv (79 + j)) (fun W => Below w4.heap.size w4 W)
              (adV10 w1.heap.size w3.heap.size (.agg #[.int .i64 E.kind, .int .i64 E.inode, .int .i64 E.block, .int .i64 E.pos, .int .i64 E.len]) (.int .i64 cc) (.int .i64 (max (leftOf (szOf sz) (pcText L2).length (entsAt 0 L2).length) 0)) (.agg #[.int .i64 (szOf sz), .string ⟨(pcText L2).toArray⟩, .slice A5 (entsAt 0 L2).length c5]) (.string ⟨(pcText L2).toArray⟩) (.int .i64 ((pcText L2).length : Int)))
              rfl (by kernel_rfl) (by rw [huw]; rfl) (fun _ _ hb h => h.trans (hb.mono h.size)) (fun _ _ _ _ _ h => h) ⟨rfl, rfl, rfl, Nat.le_refl _, fun _ _ => rfl⟩ ?_ ?_ ?_
            all_goals clear huw
            · exact ⟨fun x v => rfl, fun x v => rfl, fun x v => rfl, fun x v => rfl, fun x v => rfl, fun x v => rfl, fun x v => rfl, fun x v => rfl, fun x v => rfl, fun x v => rfl, fun x v => rfl, fun x v => rfl, fun x v => rfl, fun x v => rfl, fun x v => rfl, fun x v => rfl, fun x v => rfl, fun x v => rfl, fun x v => rfl, fun x v => rfl, fun x v => rfl, fun x v => rfl, fun x v => rfl, trivial⟩
            · refine ⟨?_, ?_, ?_, ?_, ?_, ?_, ?_, ?_, ?_, ?_, ?_, ?_, ?_, ?_, ?_, ?_, ?_, ?_, ?_, ?_, ?_, ?_, ?_, trivial⟩
              · intro x w' hS hd K hK
                refine ⟨rfl, ?_⟩
                unfold adA10 at hK ⊢
                have hE := obj_below HNB.out hS
                have z0 := obj_cell hE 0
                have z1 := obj_cell hE 1
                have z2 := obj_cell hE 2
                have z3 := obj_cell hE 3
                have z4 := obj_cell hE 4
                have zl := obj_lt hE
                simp only [List.getElem?_toArray, List.getElem?_cons_zero, List.getElem?_cons_succ] at z0 z1 z2 z3 z4
                go_wp2
                exact hK (.agg #[.int .i64 E.kind, .int .i64 E.inode, .int .i64 E.block, .int .i64 E.pos, .int .i64 E.len]) w' (Below.refl _ _) rfl
              · intro x w' hS hd K hK
                refine ⟨rfl, ?_⟩
                unfold adA10 at hK ⊢
                have hE := obj_below HN9.out hS
                have z0 := obj_cell hE 0
                have z1 := obj_cell hE 1
                have z2 := obj_cell hE 2
                have z3 := obj_cell hE 3
                have z4 := obj_cell hE 4
                have zl := obj_lt hE
                simp only [List.getElem?_toArray, List.getElem?_cons_zero, List.getElem?_cons_succ] at z0 z1 z2 z3 z4
                go_wp2
                exact hK (.agg #[.int .i64 E.kind, .int .i64 E.inode, .int .i64 E.block, .int .i64 E.pos, .int .i64 E.len]) w' (Below.refl _ _) rfl
              · intro x w' hS hd K hK
                have d0 : x 0 = .agg #[.int .i64 E.kind, .int .i64 E.inode, .int .i64 E.block, .int .i64 E.pos, .int .i64 E.len] := by first | exact hd _ List.mem_cons_self | exact hd _ (List.mem_cons_of_mem _ List.mem_cons_self) | exact hd _ (List.mem_cons_of_mem _ (List.mem_cons_of_mem _ List.mem_cons_self)) | exact hd _ (List.mem_cons_of_mem _ (List.mem_cons_of_mem _ (List.mem_cons_of_mem _ List.mem_cons_self))) | exact hd _ (List.mem_cons_of_mem _ (List.mem_cons_of_mem _ (List.mem_cons_of_mem _ (List.mem_cons_of_mem _ List.mem_cons_self))))
                have d1 : x 1 = .agg #[.int .i64 E.kind, .int .i64 E.inode, .int .i64 E.block, .int .i64 E.pos, .int .i64 E.len] := by first | exact hd _ List.mem_cons_self | exact hd _ (List.mem_cons_of_mem _ List.mem_cons_self) | exact hd _ (List.mem_cons_of_mem _ (List.mem_cons_of_mem _ List.mem_cons_self)) | exact hd _ (List.mem_cons_of_mem _ (List.mem_cons_of_mem _ (List.mem_cons_of_mem _ List.mem_cons_self))) | exact hd _ (List.mem_cons_of_mem _ (List.mem_cons_of_mem _ (List.mem_cons_of_mem _ (List.mem_cons_of_mem _ List.mem_cons_self))))
                refine ⟨rfl, ?_⟩
                unfold adA10 at hK ⊢
                simp only [d0, d1] at hK ⊢
                go_wp2
                exact hK (.bool false) w' (Below.refl _ _) rfl
              · intro x w' hS hd K hK
                have d0 : x 2 = .bool false := by first | exact hd _ List.mem_cons_self | exact hd _ (List.mem_cons_of_mem _ List.mem_cons_self) | exact hd _ (List.mem_cons_of_mem _ (List.mem_cons_of_mem _ List.mem_cons_self)) | exact hd _ (List.mem_cons_of_mem _ (List.mem_cons_of_mem _ (List.mem_cons_of_mem _ List.mem_cons_self))) | exact hd _ (List.mem_cons_of_mem _ (List.mem_cons_of_mem _ (List.mem_cons_of_mem _ (List.mem_cons_of_mem _ List.mem_cons_self))))
                refine ⟨rfl, ?_⟩
                unfold adA10 at hK ⊢
                simp only [d0] at hK ⊢
                go_wp2
                exact hK (.bool false) w' (Below.refl _ _) rfl
              · intro x w' hS hd K hK
                have d0 : x 3 = .bool false := by first | exact hd _ List.mem_cons_self | exact hd _ (List.mem_cons_of_mem _ List.mem_cons_self) | exact hd _ (List.mem_cons_of_mem _ (List.mem_cons_of_mem _ List.mem_cons_self)) | exact hd _ (List.mem_cons_of_mem _ (List.mem_cons_of_mem _ (List.mem_cons_of_mem _ List.mem_cons_self))) | exact hd _ (List.mem_cons_of_mem _ (List.mem_cons_of_mem _ (List.mem_cons_of_mem _ (List.mem_cons_of_mem _ List.mem_cons_self))))
                refine ⟨by unfold adA10; rw [d0]; rfl, ?_⟩
                unfold adA10 at hK ⊢
                simp only [d0] at hK ⊢
                go_wp2
                exact hK (.int .i64 cc) w' (Below.refl _ _) rfl
              · intro x w' hS hd K hK
                have d0 : x 3 = .bool false := by first | exact hd _ List.mem_cons_self | exact hd _ (List.mem_cons_of_mem _ List.mem_cons_self) | exact hd _ (List.mem_cons_of_mem _ (List.mem_cons_of_mem _ List.mem_cons_self)) | exact hd _ (List.mem_cons_of_mem _ (List.mem_cons_of_mem _ (List.mem_cons_of_mem _ List.mem_cons_self))) | exact hd _ (List.mem_cons_of_mem _ (List.mem_cons_of_mem _ (List.mem_cons_of_mem _ (List.mem_cons_of_mem _ List.mem_cons_self))))
                refine ⟨by unfold adA10; rw [d0]; rfl, ?_⟩
                unfold adA10 at hK ⊢
                simp only [d0] at hK ⊢
                go_wp2
                exact hK (.int .i64 cc) w' (Below.refl _ _) rfl
              · intro x w' hS hd K hK
                have d0 : x 3 = .bool false := by first | exact hd _ List.mem_cons_self | exact hd _ (List.mem_cons_of_mem _ List.mem_cons_self) | exact hd _ (List.mem_cons_of_mem _ (List.mem_cons_of_mem _ List.mem_cons_self)) | exact hd _ (List.mem_cons_of_mem _ (List.mem_cons_of_mem _ (List.mem_cons_of_mem _ List.mem_cons_self))) | exact hd _ (List.mem_cons_of_mem _ (List.mem_cons_of_mem _ (List.mem_cons_of_mem _ (List.mem_cons_of_mem _ List.mem_cons_self))))
                have d1 : x 4 = .int .i64 cc := by first | exact hd _ List.mem_cons_self | exact hd _ (List.mem_cons_of_mem _ List.mem_cons_self) | exact hd _ (List.mem_cons_of_mem _ (List.mem_cons_of_mem _ List.mem_cons_self)) | exact hd _ (List.mem_cons_of_mem _ (List.mem_cons_of_mem _ (List.mem_cons_of_mem _ List.mem_cons_self))) | exact hd _ (List.mem_cons_of_mem _ (List.mem_cons_of_mem _ (List.mem_cons_of_mem _ (List.mem_cons_of_mem _ List.mem_cons_self))))
                have d2 : x 5 = .int .i64 cc := by first | exact hd _ List.mem_cons_self | exact hd _ (List.mem_cons_of_mem _ List.mem_cons_self) | exact hd _ (List.mem_cons_of_mem _ (List.mem_cons_of_mem _ List.mem_cons_self)) | exact hd _ (List.mem_cons_of_mem _ (List.mem_cons_of_mem _ (List.mem_cons_of_mem _ List.mem_cons_self))) | exact hd _ (List.mem_cons_of_mem _ (List.mem_cons_of_mem _ (List.mem_cons_of_mem _ (List.mem_cons_of_mem _ List.mem_cons_self))))
                refine ⟨by unfold adA10; rw [d0]; rfl, ?_⟩
                unfold adA10 at hK ⊢
                simp only [d0, d1, d2] at hK ⊢
                go_wp2
                exact hK (.bool false) w' (Below.refl _ _) rfl
              · intro x w' hS hd K hK
                have d0 : x 3 = .bool false := by first | exact hd _ List.mem_cons_self | exact hd _ (List.mem_cons_of_mem _ List.mem_cons_self) | exact hd _ (List.mem_cons_of_mem _ (List.mem_cons_of_mem _ List.mem_cons_self)) | exact hd _ (List.mem_cons_of_mem _ (List.mem_cons_of_mem _ (List.mem_cons_of_mem _ List.mem_cons_self))) | exact hd _ (List.mem_cons_of_mem _ (List.mem_cons_of_mem _ (List.mem_cons_of_mem _ (List.mem_cons_of_mem _ List.mem_cons_self))))
                have d1 : x 6 = .bool false := by first | exact hd _ List.mem_cons_self | exact hd _ (List.mem_cons_of_mem _ List.mem_cons_self) | exact hd _ (List.mem_cons_of_mem _ (List.mem_cons_of_mem _ List.mem_cons_self)) | exact hd _ (List.mem_cons_of_mem _ (List.mem_cons_of_mem _ (List.mem_cons_of_mem _ List.mem_cons_self))) | exact hd _ (List.mem_cons_of_mem _ (List.mem_cons_of_mem _ (List.mem_cons_of_mem _ (List.mem_cons_of_mem _ List.mem_cons_self))))
                refine ⟨rfl, ?_⟩
                unfold adA10 at hK ⊢
                simp only [d0, d1] at hK ⊢
                go_wp2
                exact hK (.bool false) w' (Below.refl _ _) rfl
              · intro x w' hS hd K hK
                have d0 : x 7 = .bool false := by first | exact hd _ List.mem_cons_self | exact hd _ (List.mem_cons_of_mem _ List.mem_cons_self) | exact hd _ (List.mem_cons_of_mem _ (List.mem_cons_of_mem _ List.mem_cons_self)) | exact hd _ (List.mem_cons_of_mem _ (List.mem_cons_of_mem _ (List.mem_cons_of_mem _ List.mem_cons_self))) | exact hd _ (List.mem_cons_of_mem _ (List.mem_cons_of_mem _ (List.mem_cons_of_mem _ (List.mem_cons_of_mem _ List.mem_cons_self))))
                refine ⟨rfl, ?_⟩
                unfold adA10 at hK ⊢
                simp only [d0] at hK ⊢
                go_wp2
                exact hK (.bool false) w' (Below.refl _ _) rfl
              · intro x w' hS hd K hK
                have d0 : x 8 = .bool false := by first | exact hd _ List.mem_cons_self | exact hd _ (List.mem_cons_of_mem _ List.mem_cons_self) | exact hd _ (List.mem_cons_of_mem _ (List.mem_cons_of_mem _ List.mem_cons_self)) | exact hd _ (List.mem_cons_of_mem _ (List.mem_cons_of_mem _ (List.mem_cons_of_mem _ List.mem_cons_self))) | exact hd _ (List.mem_cons_of_mem _ (List.mem_cons_of_mem _ (List.mem_cons_of_mem _ (List.mem_cons_of_mem _ List.mem_cons_self))))
                refine ⟨by unfold adA10; rw [d0]; rfl, ?_⟩
                unfold adA10 at hK ⊢
                simp only [d0] at hK ⊢
                go_wp2
                exact hK (.pointer (some ⟨w1.heap.size, 0, none⟩)) w' (Below.refl _ _) rfl
              · intro x w' hS hd K hK
                have d0 : x 8 = .bool false := by first | exact hd _ List.mem_cons_self | exact hd _ (List.mem_cons_of_mem _ List.mem_cons_self) | exact hd _ (List.mem_cons_of_mem _ (List.mem_cons_of_mem _ List.mem_cons_self)) | exact hd _ (List.mem_cons_of_mem _ (List.mem_cons_of_mem _ (List.mem_cons_of_mem _ List.mem_cons_self))) | exact hd _ (List.mem_cons_of_mem _ (List.mem_cons_of_mem _ (List.mem_cons_of_mem _ (List.mem_cons_of_mem _ List.mem_cons_self))))
                have d1 : x 9 = .pointer (some ⟨w1.heap.size, 0, none⟩) := by first | exact hd _ List.mem_cons_self | exact hd _ (List.mem_cons_of_mem _ List.mem_cons_self) | exact hd _ (List.mem_cons_of_mem _ (List.mem_cons_of_mem _ List.mem_cons_self)) | exact hd _ (List.mem_cons_of_mem _ (List.mem_cons_of_mem _ (List.mem_cons_of_mem _ List.mem_cons_self))) | exact hd _ (List.mem_cons_of_mem _ (List.mem_cons_of_mem _ (List.mem_cons_of_mem _ (List.mem_cons_of_mem _ List.mem_cons_self))))
                refine ⟨by unfold adA10; rw [d0]; rfl, ?_⟩
                unfold adA10 at hK ⊢
                simp only [d0, d1] at hK ⊢
                go_wp2_with fail
                refine (CR.out _ hS).mono ?_
                rintro e w2 ⟨rfl, hb2⟩
                exact hK (.int .i64 (max (leftOf (szOf sz) (pcText L2).length (entsAt 0 L2).length) 0)) w2 hb2 rfl
              · intro x w' hS hd K hK
                have d0 : x 8 = .bool false := by first | exact hd _ List.mem_cons_self | exact hd _ (List.mem_cons_of_mem _ List.mem_cons_self) | exact hd _ (List.mem_cons_of_mem _ (List.mem_cons_of_mem _ List.mem_cons_self)) | exact hd _ (List.mem_cons_of_mem _ (List.mem_cons_of_mem _ (List.mem_cons_of_mem _ List.mem_cons_self))) | exact hd _ (List.mem_cons_of_mem _ (List.mem_cons_of_mem _ (List.mem_cons_of_mem _ (List.mem_cons_of_mem _ List.mem_cons_self))))
                refine ⟨by unfold adA10; rw [d0]; rfl, ?_⟩
                unfold adA10 at hK ⊢
                simp only [d0] at hK ⊢
                have hE := obj_below HSB4.out hS
                have z0 := obj_cell hE 0
                have z1 := obj_cell hE 1
                have z2 := obj_cell hE 2
                have zl := obj_lt hE
                simp only [List.getElem?_toArray, List.getElem?_cons_zero, List.getElem?_cons_succ] at z0 z1 z2
                go_wp2
                exact hK (.agg #[.int .i64 (szOf sz), .string ⟨(pcText L2).toArray⟩, .slice A5 (entsAt 0 L2).length c5]) w' (Below.refl _ _) rfl
              · intro x w' hS hd K hK
                have d0 : x 8 = .bool false := by first | exact hd _ List.mem_cons_self | exact hd _ (List.mem_cons_of_mem _ List.mem_cons_self) | exact hd _ (List.mem_cons_of_mem _ (List.mem_cons_of_mem _ List.mem_cons_self)) | exact hd _ (List.mem_cons_of_mem _ (List.mem_cons_of_mem _ (List.mem_cons_of_mem _ List.mem_cons_self))) | exact hd _ (List.mem_cons_of_mem _ (List.mem_cons_of_mem _ (List.mem_cons_of_mem _ (List.mem_cons_of_mem _ List.mem_cons_self))))
                have d1 : x 11 = .agg #[.int .i64 (szOf sz), .string ⟨(pcText L2).toArray⟩, .slice A5 (entsAt 0 L2).length c5] := by first | exact hd _ List.mem_cons_self | exact hd _ (List.mem_cons_of_mem _ List.mem_cons_self) | exact hd _ (List.mem_cons_of_mem _ (List.mem_cons_of_mem _ List.mem_cons_self)) | exact hd _ (List.mem_cons_of_mem _ (List.mem_cons_of_mem _ (List.mem_cons_of_mem _ List.mem_cons_self))) | exact hd _ (List.mem_cons_of_mem _ (List.mem_cons_of_mem _ (List.mem_cons_of_mem _ (List.mem_cons_of_mem _ List.mem_cons_self))))
                refine ⟨by unfold adA10; rw [d0]; rfl, ?_⟩
                unfold adA10 at hK ⊢
                simp only [d0, d1] at hK ⊢
                go_wp2_with fail
                refine (CQ.out _).mono ?_
                rintro e w2 ⟨rfl, hb2⟩
                exact hK (.int .i64 (max (leftOf (szOf sz) (pcText L2).length (entsAt 0 L2).length) 0)) w2 hb2 rfl
              · intro x w' hS hd K hK
                have d0 : x 8 = .bool false := by first | exact hd _ List.mem_cons_self | exact hd _ (List.mem_cons_of_mem _ List.mem_cons_self) | exact hd _ (List.mem_cons_of_mem _ (List.mem_cons_of_mem _ List.mem_cons_self)) | exact hd _ (List.mem_cons_of_mem _ (List.mem_cons_of_mem _ (List.mem_cons_of_mem _ List.mem_cons_self))) | exact hd _ (List.mem_cons_of_mem _ (List.mem_cons_of_mem _ (List.mem_cons_of_mem _ (List.mem_cons_of_mem _ List.mem_cons_self))))
                have d1 : x 10 = .int .i64 (max (leftOf (szOf sz) (pcText L2).length (entsAt 0 L2).length) 0) := by first | exact hd _ List.mem_cons_self | exact hd _ (List.mem_cons_of_mem _ List.mem_cons_self) | exact hd _ (List.mem_cons_of_mem _ (List.mem_cons_of_mem _ List.mem_cons_self)) | exact hd _ (List.mem_cons_of_mem _ (List.mem_cons_of_mem _ (List.mem_cons_of_mem _ List.mem_cons_self))) | exact hd _ (List.mem_cons_of_mem _ (List.mem_cons_of_mem _ (List.mem_cons_of_mem _ (List.mem_cons_of_mem _ List.mem_cons_self))))
                have d2 : x 12 = .int .i64 (max (leftOf (szOf sz) (pcText L2).length (entsAt 0 L2).length) 0) := by first | exact hd _ List.mem_cons_self | exact hd _ (List.mem_cons_of_mem _ List.mem_cons_self) | exact hd _ (List.mem_cons_of_mem _ (List.mem_cons_of_mem _ List.mem_cons_self)) | exact hd _ (List.mem_cons_of_mem _ (List.mem_cons_of_mem _ (List.mem_cons_of_mem _ List.mem_cons_self))) | exact hd _ (List.mem_cons_of_mem _ (List.mem_cons_of_mem _ (List.mem_cons_of_mem _ (List.mem_cons_of_mem _ List.mem_cons_self))))
                refine ⟨by unfold adA10; rw [d0]; rfl, ?_⟩
                unfold adA10 at hK ⊢
                simp only [d0, d1, d2] at hK ⊢
                go_wp2
                exact hK (.bool false) w' (Below.refl _ _) rfl
              · intro x w' hS hd K hK
                have d0 : x 8 = .bool false := by first | exact hd _ List.mem_cons_self | exact hd _ (List.mem_cons_of_mem _ List.mem_cons_self) | exact hd _ (List.mem_cons_of_mem _ (List.mem_cons_of_mem _ List.mem_cons_self)) | exact hd _ (List.mem_cons_of_mem _ (List.mem_cons_of_mem _ (List.mem_cons_of_mem _ List.mem_cons_self))) | exact hd _ (List.mem_cons_of_mem _ (List.mem_cons_of_mem _ (List.mem_cons_of_mem _ (List.mem_cons_of_mem _ List.mem_cons_self))))
                have d1 : x 13 = .bool false := by first | exact hd _ List.mem_cons_self | exact hd _ (List.mem_cons_of_mem _ List.mem_cons_self) | exact hd _ (List.mem_cons_of_mem _ (List.mem_cons_of_mem _ List.mem_cons_self)) | exact hd _ (List.mem_cons_of_mem _ (List.mem_cons_of_mem _ (List.mem_cons_of_mem _ List.mem_cons_self))) | exact hd _ (List.mem_cons_of_mem _ (List.mem_cons_of_mem _ (List.mem_cons_of_mem _ (List.mem_cons_of_mem _ List.mem_cons_self))))
                refine ⟨rfl, ?_⟩
                unfold adA10 at hK ⊢
                simp only [d0, d1] at hK ⊢
                go_wp2
                exact hK (.bool false) w' (Below.refl _ _) rfl
              · intro x w' hS hd K hK
                have d0 : x 14 = .bool false := by first | exact hd _ List.mem_cons_self | exact hd _ (List.mem_cons_of_mem _ List.mem_cons_self) | exact hd _ (List.mem_cons_of_mem _ (List.mem_cons_of_mem _ List.mem_cons_self)) | exact hd _ (List.mem_cons_of_mem _ (List.mem_cons_of_mem _ (List.mem_cons_of_mem _ List.mem_cons_self))) | exact hd _ (List.mem_cons_of_mem _ (List.mem_cons_of_mem _ (List.mem_cons_of_mem _ (List.mem_cons_of_mem _ List.mem_cons_self))))
                refine ⟨rfl, ?_⟩
                unfold adA10 at hK ⊢
                simp only [d0] at hK ⊢
                go_wp2
                exact hK (.bool false) w' (Below.refl _ _) rfl
              · intro x w' hS hd K hK
                have d0 : x 15 = .bool false := by first | exact hd _ List.mem_cons_self | exact hd _ (List.mem_cons_of_mem _ List.mem_cons_self) | exact hd _ (List.mem_cons_of_mem _ (List.mem_cons_of_mem _ List.mem_cons_self)) | exact hd _ (List.mem_cons_of_mem _ (List.mem_cons_of_mem _ (List.mem_cons_of_mem _ List.mem_cons_self))) | exact hd _ (List.mem_cons_of_mem _ (List.mem_cons_of_mem _ (List.mem_cons_of_mem _ (List.mem_cons_of_mem _ List.mem_cons_self))))
                refine ⟨by unfold adA10; rw [d0]; rfl, ?_⟩
                unfold adA10 at hK ⊢
                simp only [d0] at hK ⊢
                go_wp2
                exact hK (.pointer (some ⟨w1.heap.size, 0, none⟩)) w' (Below.refl _ _) rfl
              · intro x w' hS hd K hK
                have d0 : x 15 = .bool false := by first | exact hd _ List.mem_cons_self | exact hd _ (List.mem_cons_of_mem _ List.mem_cons_self) | exact hd _ (List.mem_cons_of_mem _ (List.mem_cons_of_mem _ List.mem_cons_self)) | exact hd _ (List.mem_cons_of_mem _ (List.mem_cons_of_mem _ (List.mem_cons_of_mem _ List.mem_cons_self))) | exact hd _ (List.mem_cons_of_mem _ (List.mem_cons_of_mem _ (List.mem_cons_of_mem _ (List.mem_cons_of_mem _ List.mem_cons_self))))
                have d1 : x 16 = .pointer (some ⟨w1.heap.size, 0, none⟩) := by first | exact hd _ List.mem_cons_self | exact hd _ (List.mem_cons_of_mem _ List.mem_cons_self) | exact hd _ (List.mem_cons_of_mem _ (List.mem_cons_of_mem _ List.mem_cons_self)) | exact hd _ (List.mem_cons_of_mem _ (List.mem_cons_of_mem _ (List.mem_cons_of_mem _ List.mem_cons_self))) | exact hd _ (List.mem_cons_of_mem _ (List.mem_cons_of_mem _ (List.mem_cons_of_mem _ (List.mem_cons_of_mem _ List.mem_cons_self))))
                refine ⟨by unfold adA10; rw [d0]; rfl, ?_⟩
                unfold adA10 at hK ⊢
                simp only [d0, d1] at hK ⊢
                go_wp2_with fail
                refine (CL.out _ hS).mono ?_
                rintro e w2 ⟨rfl, hb2⟩
                exact hK (.int .i64 ((pcText L2).length : Int)) w2 hb2 rfl
              · intro x w' hS hd K hK
                have d0 : x 15 = .bool false := by first | exact hd _ List.mem_cons_self | exact hd _ (List.mem_cons_of_mem _ List.mem_cons_self) | exact hd _ (List.mem_cons_of_mem _ (List.mem_cons_of_mem _ List.mem_cons_self)) | exact hd _ (List.mem_cons_of_mem _ (List.mem_cons_of_mem _ (List.mem_cons_of_mem _ List.mem_cons_self))) | exact hd _ (List.mem_cons_of_mem _ (List.mem_cons_of_mem _ (List.mem_cons_of_mem _ (List.mem_cons_of_mem _ List.mem_cons_self))))
                refine ⟨by unfold adA10; rw [d0]; rfl, ?_⟩
                unfold adA10 at hK ⊢
                simp only [d0] at hK ⊢
                go_wp2
                exact hK (.pointer (some ⟨w3.heap.size, 1, none⟩)) w' (Below.refl _ _) rfl
              · intro x w' hS hd K hK
                have d0 : x 15 = .bool false := by first | exact hd _ List.mem_cons_self | exact hd _ (List.mem_cons_of_mem _ List.mem_cons_self) | exact hd _ (List.mem_cons_of_mem _ (List.mem_cons_of_mem _ List.mem_cons_self)) | exact hd _ (List.mem_cons_of_mem _ (List.mem_cons_of_mem _ (List.mem_cons_of_mem _ List.mem_cons_self))) | exact hd _ (List.mem_cons_of_mem _ (List.mem_cons_of_mem _ (List.mem_cons_of_mem _ (List.mem_cons_of_mem _ List.mem_cons_self))))
                have d1 : x 18 = .pointer (some ⟨w3.heap.size, 1, none⟩) := by first | exact hd _ List.mem_cons_self | exact hd _ (List.mem_cons_of_mem _ List.mem_cons_self) | exact hd _ (List.mem_cons_of_mem _ (List.mem_cons_of_mem _ List.mem_cons_self)) | exact hd _ (List.mem_cons_of_mem _ (List.mem_cons_of_mem _ (List.mem_cons_of_mem _ List.mem_cons_self))) | exact hd _ (List.mem_cons_of_mem _ (List.mem_cons_of_mem _ (List.mem_cons_of_mem _ (List.mem_cons_of_mem _ List.mem_cons_self))))
                refine ⟨by unfold adA10; rw [d0]; rfl, ?_⟩
                unfold adA10 at hK ⊢
                simp only [d0, d1] at hK ⊢
                have hE := obj_below HSB4.out hS
                have z0 := obj_cell hE 0
                have z1 := obj_cell hE 1
                have z2 := obj_cell hE 2
                have zl := obj_lt hE
                simp only [List.getElem?_toArray, List.getElem?_cons_zero, List.getElem?_cons_succ] at z0 z1 z2
                go_wp2
                exact hK (.string ⟨(pcText L2).toArray⟩) w' (Below.refl _ _) rfl
              · intro x w' hS hd K hK
                have d0 : x 15 = .bool false := by first | exact hd _ List.mem_cons_self | exact hd _ (List.mem_cons_of_mem _ List.mem_cons_self) | exact hd _ (List.mem_cons_of_mem _ (List.mem_cons_of_mem _ List.mem_cons_self)) | exact hd _ (List.mem_cons_of_mem _ (List.mem_cons_of_mem _ (List.mem_cons_of_mem _ List.mem_cons_self))) | exact hd _ (List.mem_cons_of_mem _ (List.mem_cons_of_mem _ (List.mem_cons_of_mem _ (List.mem_cons_of_mem _ List.mem_cons_self))))
                have d1 : x 19 = .string ⟨(pcText L2).toArray⟩ := by first | exact hd _ List.mem_cons_self | exact hd _ (List.mem_cons_of_mem _ List.mem_cons_self) | exact hd _ (List.mem_cons_of_mem _ (List.mem_cons_of_mem _ List.mem_cons_self)) | exact hd _ (List.mem_cons_of_mem _ (List.mem_cons_of_mem _ (List.mem_cons_of_mem _ List.mem_cons_self))) | exact hd _ (List.mem_cons_of_mem _ (List.mem_cons_of_mem _ (List.mem_cons_of_mem _ (List.mem_cons_of_mem _ List.mem_cons_self))))
                refine ⟨by unfold adA10; rw [d0]; rfl, ?_⟩
                unfold adA10 at hK ⊢
                simp only [d0, d1] at hK ⊢
                have hq := HQZ.out
                go_wp2
                exact hK (.int .i64 ((pcText L2).length : Int)) w' (Below.refl _ _) rfl
              · intro x w' hS hd K hK
                have d0 : x 15 = .bool false := by first | exact hd _ List.mem_cons_self | exact hd _ (List.mem_cons_of_mem _ List.mem_cons_self) | exact hd _ (List.mem_cons_of_mem _ (List.mem_cons_of_mem _ List.mem_cons_self)) | exact hd _ (List.mem_cons_of_mem _ (List.mem_cons_of_mem _ (List.mem_cons_of_mem _ List.mem_cons_self))) | exact hd _ (List.mem_cons_of_mem _ (List.mem_cons_of_mem _ (List.mem_cons_of_mem _ (List.mem_cons_of_mem _ List.mem_cons_self))))
                have d1 : x 17 = .int .i64 ((pcText L2).length : Int) := by first | exact hd _ List.mem_cons_self | exact hd _ (List.mem_cons_of_mem _ List.mem_cons_self) | exact hd _ (List.mem_cons_of_mem _ (List.mem_cons_of_mem _ List.mem_cons_self)) | exact hd _ (List.mem_cons_of_mem _ (List.mem_cons_of_mem _ (List.mem_cons_of_mem _ List.mem_cons_self))) | exact hd _ (List.mem_cons_of_mem _ (List.mem_cons_of_mem _ (List.mem_cons_of_mem _ (List.mem_cons_of_mem _ List.mem_cons_self))))
                have d2 : x 20 = .int .i64 ((pcText L2).length : Int) := by first | exact hd _ List.mem_cons_self | exact hd _ (List.mem_cons_of_mem _ List.mem_cons_self) | exact hd _ (List.mem_cons_of_mem _ (List.mem_cons_of_mem _ List.mem_cons_self)) | exact hd _ (List.mem_cons_of_mem _ (List.mem_cons_of_mem _ (List.mem_cons_of_mem _ List.mem_cons_self))) | exact hd _ (List.mem_cons_of_mem _ (List.mem_cons_of_mem _ (List.mem_cons_of_mem _ (List.mem_cons_of_mem _ List.mem_cons_self))))
                refine ⟨by unfold adA10; rw [d0]; rfl, ?_⟩
                unfold adA10 at hK ⊢
                simp only [d0, d1, d2] at hK ⊢
                go_wp2
                exact hK (.bool false) w' (Below.refl _ _) rfl
              · intro x w' hS hd K hK
                have d0 : x 15 = .bool false := by first | exact hd _ List.mem_cons_self | exact hd _ (List.mem_cons_of_mem _ List.mem_cons_self) | exact hd _ (List.mem_cons_of_mem _ (List.mem_cons_of_mem _ List.mem_cons_self)) | exact hd _ (List.mem_cons_of_mem _ (List.mem_cons_of_mem _ (List.mem_cons_of_mem _ List.mem_cons_self))) | exact hd _ (List.mem_cons_of_mem _ (List.mem_cons_of_mem _ (List.mem_cons_of_mem _ (List.mem_cons_of_mem _ List.mem_cons_self))))
                have d1 : x 21 = .bool false := by first | exact hd _ List.mem_cons_self | exact hd _ (List.mem_cons_of_mem _ List.mem_cons_self) | exact hd _ (List.mem_cons_of_mem _ (List.mem_cons_of_mem _ List.mem_cons_self)) | exact hd _ (List.mem_cons_of_mem _ (List.mem_cons_of_mem _ (List.mem_cons_of_mem _ List.mem_cons_self))) | exact hd _ (List.mem_cons_of_mem _ (List.mem_cons_of_mem _ (List.mem_cons_of_mem _ (List.mem_cons_of_mem _ List.mem_cons_self))))
                refine ⟨rfl, ?_⟩
                unfold adA10 at hK ⊢
                simp only [d0, d1] at hK ⊢
                go_wp2
                exact hK (.bool false) w' (Below.refl _ _) rfl
            · intro z w5 hS hv
              have e22 : z 22 = .bool false := hv 22 (by decide)
              unfold adA10
              simp only [e22]
              have HST : Hid (AdS w w1.heap.size w3.heap.size (szOf sz) l w5 (.int .i64 ((k + 1 : Nat) : Int))) := hide ⟨k + 1, L2, lv1, .slice A5 (entsAt 0 L2).length c5, rfl, hkl, by omega, Sg.below HS1.out hS, HI2.out, obj_below HSB4.out hS, row_below HA1.out hS, HN1.out, HB4.out.trans (hS.mono HB4.out.size), hg, hgs⟩
              clear hS hv
              go_wp2
              go_roundw
              case rel => exact HST.out
              case measure => simp [intOf]; omega
      · obtain rfl : k = l.length := by omega
        have hbd := HI.out.bounds hsz1
        have CS : Hid (∀ W : World, Below wr.heap.size wr W → Calls Try.prog 60 #[.pointer (some ⟨w1.heap.size, 0, none⟩)] W fun e w' => e = .returned (.string (segS l')) ∧ Below W.heap.size W w') := hide (fun W hW => sealP w1.heap.size (szOf sz) l' lv W (Sg.below HS.out hW) HI.out hsz1 (by omega))
        have CQ : Hid (∀ W : World, Below wr.heap.size wr W → Calls Try.prog 61 #[.agg #[.int .i64 (szOf sz), .string ⟨(pcText l').toArray⟩, .slice A2 (entsAt 0 l').length m2]] W fun e w' => e = .returned (.string (segS l')) ∧ Below W.heap.size W w') := hide (fun W hW => rsealP (szOf sz) l' (.slice A2 (entsAt 0 l').length m2) w1.heap.size W (row_below HRV.out hW) HI.out hsz1 (by omega))
        go_wp2_with fail
        obtain ⟨uu, huu⟩ : ∃ uu : Nat → Value, uu = (fun j => if j < 25 then [u8, u9, u10, u11, u12].getD (j - 8) undef else [u25, u26, u27, u28, u29, u30, u31, u32, u33, u34, u35, u36, u37, u38, u39, u40, u41, u42, u43, u44, u45, u46, u47, u48, u49, u50, u51, u52, u53, u54, u55, u56, u57, u58, u59, u60, u61, u62, u63, u64, u65, u66, u67, u68, u69, u70, u71, u72, u73, u74, u75, u76, u77, u78, u79, u80, u81, u82, u83, u84, u85, u86, u87, u88, u89, u90, u91, u92, u93, u94, u95, u96, u97, u98, u99, u100, u101].getD (j - 25) undef) := ⟨_, rfl⟩
        refine wp_region_vals (adA12 sz (szOf sz) (.slice A l.length c) (.int .i64 (l.length : Int)) w1.heap.size w3.heap.size l.length uu) (fun j => if j = 8 then u4 else undef) (fun W => Below wr.heap.size wr W)
          (adV12 w1.heap.size (.string (segS l')) (.agg #[.int .i64 (szOf sz), .string ⟨(pcText l').toArray⟩, .slice A2 (entsAt 0 l').length m2])) rfl (by kernel_rfl) (by rw [huu]; rfl) (fun _ _ hb h => h.trans (hb.mono h.size)) (fun _ _ _ _ _ h => h) ⟨rfl, rfl, rfl, Nat.le_refl _, fun _ _ => rfl⟩ ?_ ?_ ?_
        all_goals clear huu
        · exact ⟨fun x v => rfl, fun x v => rfl, fun x v => rfl, fun x v => rfl, fun x v => rfl, fun x v => rfl, fun x v => rfl, fun x v => rfl, fun x v => rfl, trivial⟩
        · refine ⟨?_, ?_, ?_, ?_, ?_, ?_, ?_, ?_, ?_, trivial⟩
          · intro x w' hS hd K hK
            refine ⟨rfl, ?_⟩
            unfold adA12 at hK ⊢
            go_wp2
            exact hK (.pointer (some ⟨w1.heap.size, 0, none⟩)) w' (Below.refl _ _) rfl
          · intro x w' hS hd K hK
            have d0 : x 0 = .pointer (some ⟨w1.heap.size, 0, none⟩) := by first | exact hd _ List.mem_cons_self | exact hd _ (List.mem_cons_of_mem _ List.mem_cons_self) | exact hd _ (List.mem_cons_of_mem _ (List.mem_cons_of_mem _ List.mem_cons_self)) | exact hd _ (List.mem_cons_of_mem _ (List.mem_cons_of_mem _ (List.mem_cons_of_mem _ List.mem_cons_self))) | exact hd _ (List.mem_cons_of_mem _ (List.mem_cons_of_mem _ (List.mem_cons_of_mem _ (List.mem_cons_of_mem _ List.mem_cons_self))))
            refine ⟨rfl, ?_⟩
            unfold adA12 at hK ⊢
            simp only [d0] at hK ⊢
            go_wp2_with fail
            refine (CS.out _ hS).mono ?_
            rintro e w2 ⟨rfl, hb2⟩
            exact hK (.string (segS l')) w2 hb2 rfl
          · intro x w' hS hd K hK
            refine ⟨rfl, ?_⟩
            unfold adA12 at hK ⊢
            have hE := obj_below HR.out hS
            have z0 := obj_cell hE 0
            have z1 := obj_cell hE 1
            have z2 := obj_cell hE 2
            have zl := obj_lt hE
            simp only [List.getElem?_toArray, List.getElem?_cons_zero, List.getElem?_cons_succ] at z0 z1 z2
            go_wp2
            exact hK (.agg #[.int .i64 (szOf sz), .string ⟨(pcText l').toArray⟩, .slice A2 (entsAt 0 l').length m2]) w' (Below.refl _ _) rfl
          · intro x w' hS hd K hK
            have d0 : x 2 = .agg #[.int .i64 (szOf sz), .string ⟨(pcText l').toArray⟩, .slice A2 (entsAt 0 l').length m2] := by first | exact hd _ List.mem_cons_self | exact hd _ (List.mem_cons_of_mem _ List.mem_cons_self) | exact hd _ (List.mem_cons_of_mem _ (List.mem_cons_of_mem _ List.mem_cons_self)) | exact hd _ (List.mem_cons_of_mem _ (List.mem_cons_of_mem _ (List.mem_cons_of_mem _ List.mem_cons_self))) | exact hd _ (List.mem_cons_of_mem _ (List.mem_cons_of_mem _ (List.mem_cons_of_mem _ (List.mem_cons_of_mem _ List.mem_cons_self))))
            refine ⟨rfl, ?_⟩
            unfold adA12 at hK ⊢
            simp only [d0] at hK ⊢
            go_wp2_with fail
            refine (CQ.out _ hS).mono ?_
            rintro e w2 ⟨rfl, hb2⟩
            exact hK (.string (segS l')) w2 hb2 rfl
          · intro x w' hS hd K hK
            have d0 : x 1 = .string (segS l') := by first | exact hd _ List.mem_cons_self | exact hd _ (List.mem_cons_of_mem _ List.mem_cons_self) | exact hd _ (List.mem_cons_of_mem _ (List.mem_cons_of_mem _ List.mem_cons_self)) | exact hd _ (List.mem_cons_of_mem _ (List.mem_cons_of_mem _ (List.mem_cons_of_mem _ List.mem_cons_self))) | exact hd _ (List.mem_cons_of_mem _ (List.mem_cons_of_mem _ (List.mem_cons_of_mem _ (List.mem_cons_of_mem _ List.mem_cons_self))))
            have d1 : x 3 = .string (segS l') := by first | exact hd _ List.mem_cons_self | exact hd _ (List.mem_cons_of_mem _ List.mem_cons_self) | exact hd _ (List.mem_cons_of_mem _ (List.mem_cons_of_mem _ List.mem_cons_self)) | exact hd _ (List.mem_cons_of_mem _ (List.mem_cons_of_mem _ (List.mem_cons_of_mem _ List.mem_cons_self))) | exact hd _ (List.mem_cons_of_mem _ (List.mem_cons_of_mem _ (List.mem_cons_of_mem _ (List.mem_cons_of_mem _ List.mem_cons_self))))
            refine ⟨rfl, ?_⟩
            unfold adA12 at hK ⊢
            simp only [d0, d1] at hK ⊢
            go_wp2
            exact hK (.bool true) w' (Below.refl _ _) rfl
          · intro x w' hS hd K hK
            have d0 : x 4 = .bool true := by first | exact hd _ List.mem_cons_self | exact hd _ (List.mem_cons_of_mem _ List.mem_cons_self) | exact hd _ (List.mem_cons_of_mem _ (List.mem_cons_of_mem _ List.mem_cons_self)) | exact hd _ (List.mem_cons_of_mem _ (List.mem_cons_of_mem _ (List.mem_cons_of_mem _ List.mem_cons_self))) | exact hd _ (List.mem_cons_of_mem _ (List.mem_cons_of_mem _ (List.mem_cons_of_mem _ (List.mem_cons_of_mem _ List.mem_cons_self))))
            refine ⟨rfl, ?_⟩
            unfold adA12 at hK ⊢
            simp only [d0] at hK ⊢
            go_wp2
            exact hK (.bool true) w' (Below.refl _ _) rfl
          · intro x w' hS hd K hK
            have d0 : x 5 = .bool true := by first | exact hd _ List.mem_cons_self | exact hd _ (List.mem_cons_of_mem _ List.mem_cons_self) | exact hd _ (List.mem_cons_of_mem _ (List.mem_cons_of_mem _ List.mem_cons_self)) | exact hd _ (List.mem_cons_of_mem _ (List.mem_cons_of_mem _ (List.mem_cons_of_mem _ List.mem_cons_self))) | exact hd _ (List.mem_cons_of_mem _ (List.mem_cons_of_mem _ (List.mem_cons_of_mem _ (List.mem_cons_of_mem _ List.mem_cons_self))))
            refine ⟨by unfold adA12; rw [d0]; rfl, ?_⟩
            unfold adA12 at hK ⊢
            simp only [d0] at hK ⊢
            go_wp2_with fail
            refine (awake31 _).mono ?_
            rintro e w2 ⟨rfl, hb2⟩
            exact hK (.bool true) w2 hb2 rfl
          · intro x w' hS hd K hK
            have d0 : x 5 = .bool true := by first | exact hd _ List.mem_cons_self | exact hd _ (List.mem_cons_of_mem _ List.mem_cons_self) | exact hd _ (List.mem_cons_of_mem _ (List.mem_cons_of_mem _ List.mem_cons_self)) | exact hd _ (List.mem_cons_of_mem _ (List.mem_cons_of_mem _ (List.mem_cons_of_mem _ List.mem_cons_self))) | exact hd _ (List.mem_cons_of_mem _ (List.mem_cons_of_mem _ (List.mem_cons_of_mem _ (List.mem_cons_of_mem _ List.mem_cons_self))))
            have d1 : x 6 = .bool true := by first | exact hd _ List.mem_cons_self | exact hd _ (List.mem_cons_of_mem _ List.mem_cons_self) | exact hd _ (List.mem_cons_of_mem _ (List.mem_cons_of_mem _ List.mem_cons_self)) | exact hd _ (List.mem_cons_of_mem _ (List.mem_cons_of_mem _ (List.mem_cons_of_mem _ List.mem_cons_self))) | exact hd _ (List.mem_cons_of_mem _ (List.mem_cons_of_mem _ (List.mem_cons_of_mem _ (List.mem_cons_of_mem _ List.mem_cons_self))))
            refine ⟨rfl, ?_⟩
            unfold adA12 at hK ⊢
            simp only [d0, d1] at hK ⊢
            go_wp2
            exact hK (.bool true) w' (Below.refl _ _) rfl
          · intro x w' hS hd K hK
            have d0 : x 7 = .bool true := by first | exact hd _ List.mem_cons_self | exact hd _ (List.mem_cons_of_mem _ List.mem_cons_self) | exact hd _ (List.mem_cons_of_mem _ (List.mem_cons_of_mem _ List.mem_cons_self)) | exact hd _ (List.mem_cons_of_mem _ (List.mem_cons_of_mem _ (List.mem_cons_of_mem _ List.mem_cons_self))) | exact hd _ (List.mem_cons_of_mem _ (List.mem_cons_of_mem _ (List.mem_cons_of_mem _ (List.mem_cons_of_mem _ List.mem_cons_self))))
            refine ⟨rfl, ?_⟩
            unfold adA12 at hK ⊢
            simp only [d0] at hK ⊢
            go_wp2
            exact hK (.bool true) w' (Below.refl _ _) rfl
        · intro z w5 hS hv
          have e8 : z 8 = .bool true := hv 8 (by decide)
          unfold adA12
          simp only [e8]
          go_wp2
          go_ret
          exact ⟨rfl, HB.out.trans (hS.mono HB.out.size)⟩
end Go.Proofs.Ytljmaicobafgkaa
