/- Chapter 31, segment: the reference's Add. -/
import Derived.Test.YtljmaicobafgkaaSeg14
import Derived.Test.YtljmaicobafgkaaOrd5
namespace Go.Proofs.Ytljmaicobafgkaa
open Go.RowKit

theorem row_base {w : World} {B B' : Nat} {e : TypeId} {size : Nat} {v : Value} {n : Nat} {xs : List Value} (h : w.ownsRow B e size v n xs) (hB : B' ≤ B) : w.ownsRow B' e size v n xs := by
  rcases h.2 with h2 | ⟨g, cap, cur, e1, hb, rest⟩
  · exact ⟨h.1, .inl h2⟩
  · exact ⟨h.1, .inr ⟨g, cap, cur, e1, Nat.le_trans hB hb, rest⟩⟩
/-- append(nil, a row..): a row of its own. -/
theorem app_copy {w : World} {B N : Nat} {v : Value} {l : List Ent} (h : OwE w B v l) (hl : l.length ≤ 1048576) (hN : N ≤ w.heap.size) :
    ∃ v' w', (Builtin.append_ #[84, 84] 84 #[.slice none 0 0, v]).run Try.prog w = .ok v' w' ∧ OwE w' N v' l ∧ Below w.heap.size w w' := by
  obtain ⟨i0, hi0, hz0, hz1, hz2⟩ := info89_parts
  rcases h.2 with ⟨rfl, h0⟩ | ⟨g, cap, cur, rfl, hb, hh, hn, hm, hc, ht⟩
  · have hl0 : l = [] := List.length_eq_zero_iff.1 h0
    subst hl0
    exact ⟨_, _, run_append_owned_none (P := Try.prog) (w := w) N 84 84 89 i0 5 Try.underlying84 hi0 (.slice none 0 0) 0 [] (World.ownsRow_nil _ _ _ _), World.ownsRow_nil _ _ _ _, Below.refl _ _⟩
  · have hev := entVals_len l
    obtain ⟨v', w', hrun, hown, hgr, _, _⟩ := run_append_own_at (P := Try.prog) (w := w) N 84 84 89 i0 _ 5 40 Try.underlying84 hi0 hz0 hz1 hz2 rfl (by decide) (.slice none 0 0) 0 [] (World.ownsRow_nil _ _ _ _) ⟨g, 0, none⟩ l.length cap (entVals l) hev
      (fun j u hu => by
        rw [add_plain', Nat.zero_add, obj_cell hh, ← hu, ← ht, List.getElem?_take, if_pos (by
          have := (List.getElem?_eq_some_iff.1 hu).1
          omega), Array.getElem?_toList]) (fun u hu => by
        simp only [entVals, List.mem_flatMap] at hu
        obtain ⟨e, _, he⟩ := hu
        simp only [Ent.cells, List.mem_cons, List.not_mem_nil, or_false] at he
        rcases he with rfl | rfl | rfl | rfl | rfl <;> rfl) (by simp only [maxLen]; omega) (by omega) hN
    refine ⟨v', w', hrun, ?_, ?_⟩
    · rw [Nat.zero_add, List.nil_append] at hown
      exact hown
    · exact ((Fr.refl (fun _ => False) w).grown hgr (fun k hk => by cases hk)).none_below
/-- Three results, the first two structs in memory. -/
theorem res_cct {P : Program} {fn : Func} {p q u : Tmp} {ty ty2 : TypeId} (h : fn.results = #[.cell p ty, .cell q ty2, .tmp u]) (tmps : Array Value) (w : World) (g g2 : Nat) (t t2 : TypeId) (cs cs2 : Array Value) (fr fr2 : Nat × Nat) (d d2 : TypeDesc)
    (hp : tmps.getD p undef = .pointer (some ⟨g, 0, none⟩)) (hg : w.heap[g]? = some (.cells cs t fr)) (hu : P.underlying ty = some d) (hd : (match d with | .struct _ | .array _ _ => true | _ => false) = true) (hi : (P.info? ty).map (·.size) = some cs.size)
    (hp2 : tmps.getD q undef = .pointer (some ⟨g2, 0, none⟩)) (hg2 : w.heap[g2]? = some (.cells cs2 t2 fr2)) (hu2 : P.underlying ty2 = some d2) (hd2 : (match d2 with | .struct _ | .array _ _ => true | _ => false) = true) (hi2 : (P.info? ty2).map (·.size) = some cs2.size) :
    (results fn tmps).run P w = .ok (.tuple #[.agg cs, .agg cs2, tmps.getD u undef]) w := by
  have hp' : tmps[p]?.getD undef = .pointer (some ⟨g, 0, none⟩) := by simpa using hp
  have hp2' : tmps[q]?.getD undef = .pointer (some ⟨g2, 0, none⟩) := by simpa using hp2
  simp [results, h, hp', hp2', asAddr, run_loadVar_row w g t ty cs fr d hg hu hd hi, run_loadVar_row w g2 t2 ty2 cs2 fr2 d2 hg2 hu2 hd2 hi2]
theorem three_setT {w : World} {g : Nat} {T : TypeId} {a b c : Value} (h : w.heap[g]? = some (.cells #[a, b, c] T (0, 0))) (v0 v1 v2 : Value) :
    (((w.setCell ⟨g, 0, none⟩ v0).setCell ⟨g, 1, none⟩ v1).setCell ⟨g, 2, none⟩ v2).heap[g]? = some (.cells #[v0, v1, v2] T (0, 0)) := by
  have h0 := obj_set h 0 v0
  have h1 := obj_set h0 1 v1
  have h2 := obj_set h1 2 v2
  simpa using h2
theorem rOver_same (n : Int) (w : World) (h0 : 0 ≤ n) (h1 : n ≤ 100000) : Calls Try.prog 126 #[.int .i64 n] w fun e w' => e = .returned (.int .i64 (9 + 28 * n)) ∧ w' = w := by
  go_enter Try.func126, Try.ntmps126
  go_wp2
  go_ret
  exact ⟨rfl, rfl⟩
def RaS (W0 : World) (N bx : Nat) (c0 c1 : Value) (lv : Value) (l : List Ent) (e : Ent) (d : Nat → Bool) (x : Nat → Value) (w : World) : Prop :=
  Fr (· = bx) W0 w ∧ (d 7 = false → w.heap[bx]? = some (.cells #[c0, c1, lv] 86 (0, 0))) ∧ (d 7 = true → d 1 = true ∧ d 5 = true ∧ w.heap[bx]? = some (.cells #[c0, c1, x 5] 86 (0, 0))) ∧ (d 2 = true → d 5 = false → OwE w N (x 2) l) ∧
    (d 4 = true → d 5 = false → ∃ g', x 4 = .slice (some ⟨g', 0, none⟩) 1 1 ∧ w.heap[g']? = some (.cells e.cells.toArray 89 (0, 0))) ∧ (d 5 = true → OwE w N (x 5) (l ++ [e]))
def RaV (bx : Nat) (A : Option Addr) (c : Nat) (l : List Ent) (e : Ent) (i : Nat) (u : Value) (_w : World) : Prop :=
  match i with
  | 0 | 6 => u = .pointer (some ⟨bx, 2, none⟩)
  | 1 => u = .slice A l.length c
  | 2 => ∃ A c, u = .slice A l.length c
  | 3 => u = .agg #[.int .i64 e.kind, .int .i64 e.inode, .int .i64 e.block, .int .i64 e.pos, .int .i64 e.len]
  | 4 => ∃ g', u = .slice (some ⟨g', 0, none⟩) 1 1
  | 5 => ∃ A n c, u = .slice A n c
  | _ => True
theorem ra_load {W0 w : World} {N bx : Nat} {c0 c1 lv v : Value} {l : List Ent} {e : Ent} {d : Nat → Bool} {x : Nat → Value} (h : RaS W0 N bx c0 c1 lv l e d x w) : RaS W0 N bx c0 c1 lv l e (fun j => if j = 1 then true else d j) (fun j => if j = 1 then v else x j) w := by
  obtain ⟨h1, h2, h3, h4, h5, h6⟩ := h
  exact ⟨h1, h2, fun h => ⟨rfl, (h3 h).2⟩, h4, h5, h6⟩
theorem ra_orig {W0 w : World} {N bx : Nat} {c0 c1 lv : Value} {l : List Ent} {e : Ent} {d : Nat → Bool} {x : Nat → Value} (h : RaS W0 N bx c0 c1 lv l e d x w) (h1 : d 1 = false) : w.heap[bx]? = some (.cells #[c0, c1, lv] 86 (0, 0)) := by
  rcases h7 : d 7 with _ | _
  · exact h.2.1 h7
  · have := (h.2.2.1 h7).1
    rw [h1] at this
    cases this
theorem ra_copy {W0 w w2 : World} {N bx : Nat} {c0 c1 lv v : Value} {l : List Ent} {e : Ent} {d : Nat → Bool} {x : Nat → Value} (h : RaS W0 N bx c0 c1 lv l e d x w) (hown : OwE w2 N v l) (hb : Below w.heap.size w w2) :
    RaS W0 N bx c0 c1 lv l e (fun j => if j = 2 then true else d j) (fun j => if j = 2 then v else x j) w2 := by
  obtain ⟨h1, h2, h3, h4, h5, h6⟩ := h
  refine ⟨h1.then_below hb, fun h => obj_below (h2 h) hb, fun h => ⟨(h3 h).1, (h3 h).2.1, obj_below (h3 h).2.2 hb⟩, fun _ _ => hown, fun h h' => ?_, fun h => row_below (h6 h) hb⟩
  obtain ⟨g', e1, e2⟩ := h5 h h'
  exact ⟨g', e1, obj_below e2 hb⟩
theorem ra_build {W0 w : World} {N bx : Nat} {c0 c1 lv : Value} {l : List Ent} {e : Ent} {d : Nat → Bool} {x : Nat → Value} (h : RaS W0 N bx c0 c1 lv l e d x w) :
    RaS W0 N bx c0 c1 lv l e (fun j => if j = 4 then true else d j) (fun j => if j = 4 then .slice (some ⟨w.heap.size, 0, none⟩) 1 1 else x j) (w.alloc (.cells e.cells.toArray 89)) := by
  obtain ⟨h1, h2, h3, h4, h5, h6⟩ := h
  have hb : Below w.heap.size w (w.alloc (.cells e.cells.toArray 89)) := (Below.refl _ _).alloc (Nat.le_refl _) _
  exact ⟨h1.then_below hb, fun h => obj_below (h2 h) hb, fun h => ⟨(h3 h).1, (h3 h).2.1, obj_below (h3 h).2.2 hb⟩, fun h h' => row_below (h4 h h') hb, fun _ _ => ⟨_, rfl, obj_new _ _⟩, fun h => row_below (h6 h) hb⟩
theorem ra_app {W0 w w2 : World} {N bx : Nat} {c0 c1 lv v : Value} {l : List Ent} {e : Ent} {d : Nat → Bool} {x : Nat → Value} (h : RaS W0 N bx c0 c1 lv l e d x w) (hd5 : d 5 = false) (hN : bx < N) (hN2 : W0.heap.size ≤ N) (ho : OwE w N (x 2) l) (hown : OwE w2 N v (l ++ [e])) (hf : Fr (fun k => (x 2).ownBlock = some k) w w2) :
    RaS W0 N bx c0 c1 lv l e (fun j => if j = 5 then true else d j) (fun j => if j = 5 then v else x j) w2 := by
  obtain ⟨h1, h2, h3, h4, h5, h6⟩ := h
  refine ⟨h1.trans hf (fun i hi he => ?_), fun h => hf.obj (h2 h) (fun he => ?_), fun h => ?_, fun _ h' => ?_, fun _ h' => ?_, fun _ => hown⟩
  · have := (row_typed ho he).1
    omega
  · have := (row_typed ho he).1
    omega
  · have := (h3 h).2.1
    rw [hd5] at this
    cases this
  · exact absurd h' (by simp)
  · exact absurd h' (by simp)
theorem ra_store {W0 w : World} {N bx : Nat} {c0 c1 lv : Value} {l : List Ent} {e : Ent} {d : Nat → Bool} {x : Nat → Value} (h : RaS W0 N bx c0 c1 lv l e d x w) (hd1 : d 1 = true) (hd5 : d 5 = true) (hd7 : d 7 = false) (hN : bx < N) (u : Value) :
    RaS W0 N bx c0 c1 lv l e (fun j => if j = 7 then true else d j) (fun j => if j = 7 then u else x j) (w.setCell ⟨bx, 2, none⟩ (x 5)) := by
  obtain ⟨h1, h2, h3, h4, h5, h6⟩ := h
  refine ⟨h1.setCell (p := ⟨bx, 2, none⟩) (fun _ => rfl) _, fun h => ?_, fun _ => ⟨hd1, hd5, ?_⟩, fun _ h' => absurd (hd5.symm.trans h') (by decide), fun _ h' => absurd (hd5.symm.trans h') (by decide), fun _ => row_fr (h6 hd5) ((Fr.refl (· = bx) w).setCell (p := ⟨bx, 2, none⟩) (fun _ => rfl) _) (fun k hk he => ?_)⟩
  · exact absurd h (by simp)
  · have := obj_set (h2 hd7) 2 (x 5)
    simpa using this
  · have := (row_typed (h6 hd5) hk).1
    omega
def raddA (v0 : Value) (n0 n1 : Nat) (size k i b : Int) (t : List UInt8) (body tb : ByteArray) (lv : Value) (ln ov lo : Int) (gt : Value) (x : Nat → Value) : Act := ⟨#[v0, .int .i64 k, .int .i64 i, .int .i64 b, .string body, .pointer (some ⟨n0, 0, none⟩), undef, undef, undef, undef, .pointer (some ⟨n0 + 1, 0, none⟩), .pointer (some ⟨n0 + 1 + 1, 0, none⟩), .int .i64 0, .pointer (some ⟨n1, 0, none⟩), .int .i64 k, .int .i64 i, .int .i64 b, .bool true, .bool false, undef, undef, .string body, .int .i64 body.size, .pointer (some ⟨n0, 0, none⟩), .int .i64 size, .pointer (some ⟨n0, 1, none⟩), .string ⟨t.toArray⟩, .int .i64 t.length, .int .i64 (size - t.length), .pointer (some ⟨n0, 2, none⟩), lv, .int .i64 ln, .int .i64 (ln + 1), .int .i64 ov, .int .i64 lo, gt, undef, undef, .int .i64 k, .int .i64 i, .int .i64 b, .pointer (some ⟨n0, 1, none⟩), .string ⟨t.toArray⟩, .int .i64 t.length, .string body, .int .i64 body.size, .agg #[.int .i64 k, .int .i64 i, .int .i64 b, .int .i64 t.length, .int .i64 body.size], .pointer (some ⟨n0, 1, none⟩), .string ⟨t.toArray⟩, .string body, .string tb, .pointer (some ⟨n0, 1, none⟩), x 0, x 1, x 2, x 3, x 4, x 5, x 6, undef, undef], []⟩
set_option maxHeartbeats 4000000 in
set_option maxRecDepth 1000000 in
theorem radd_ok (size : Int) (t : List UInt8) (l : List Ent) (lv : Value) (B : Nat) (k i b : Int) (body : ByteArray) (w : World) (he : OwE w B lv l) (hB : B ≤ w.heap.size) (h0 : 0 ≤ size) (h1 : size ≤ 65536) (ht : t.length ≤ 1048576) (hn : l.length ≤ 90000)
    (hm : mayE k i b) (hf : (body.size : Int) ≤ leftOf size t.length l.length) :
    Calls Try.prog 55 #[.agg (rsC size ⟨t.toArray⟩ lv), .int .i64 k, .int .i64 i, .int .i64 b, .string body] w fun e w' => ∃ lv', e = .returned (.tuple #[.agg (rsC size ⟨(t ++ body.data.toList).toArray⟩ lv'), entV ⟨k, i, b, t.length, body.size⟩, .int .i64 0]) ∧
      OwE w' w.heap.size lv' (l ++ [⟨k, i, b, t.length, body.size⟩]) ∧ Below w.heap.size w w' := by
  obtain ⟨A, c, rfl⟩ := row_slice he
  have HM := hide (decide_eq_true hm)
  have HE := hide he
  have hlo : leftOf size t.length l.length = size - t.length - (9 + 28 * (l.length + 1)) := by
    unfold leftOf over
    rw [if_neg (by omega), show min ((l.length : Int) + 1) 100000 = (l.length : Int) + 1 from by omega]
  rw [hlo] at hf
  clear hlo he hm
  unfold rsC
  go_enter Try.func55, Try.ntmps55
  go_wp2_with fail
  refine (rMay_any k i b _).mono ?_
  rintro e w1 ⟨rfl, hb1⟩
  rw [HM.out]
  have BOX := hide (obj_below (obj_alloc (obj_alloc (obj_new w (.cells #[.int .i64 size, .string ⟨t.toArray⟩, .slice A l.length c] 86)) (.cells #[.int .i64 0, .string ⟨#[]⟩, .slice none 0 0] 86)) (.cells #[.int .i64 0, .int .i64 0, .int .i64 0, .int .i64 0, .int .i64 0] 89)) hb1)
  have z0 := obj_cell BOX.out 0
  have z1 := obj_cell BOX.out 1
  have z2 := obj_cell BOX.out 2
  simp only [List.getElem?_toArray, List.getElem?_cons_zero, List.getElem?_cons_succ] at z0 z1 z2
  have hcmp : ¬ size - (t.length : Int) - (9 + 28 * ((l.length : Int) + 1)) < (body.size : Int) := by omega
  have hsz : (⟨t.toArray⟩ : ByteArray).size = t.length := rfl
  go_wp2_with fail
  go_quiet (first | (go_at_call 126; refine Calls.quiet_of_same (rOver_same _ _ (by omega) (by omega))))
  have hbq := below_drewN (Below.refl w1.heap.size w1) nq
  generalize w1.drewN nq = wq at hbq ⊢
  have HB1 := hide (below_step (((Below.refl w.heap.size w).alloc (Nat.le_refl _) (.cells #[.int .i64 size, .string ⟨t.toArray⟩, .slice A l.length c] 86)).alloc (by simp) (.cells #[.int .i64 0, .string ⟨#[]⟩, .slice none 0 0] 86)) (by simp; omega) hb1)
  have BOX2 := hide (obj_below BOX.out hbq)
  clear z0 z1 z2
  have z0 := obj_cell BOX2.out 0
  have z1 := obj_cell BOX2.out 1
  have z2 := obj_cell BOX2.out 2
  have f1 := obj_frozen BOX2.out 1
  have bl := obj_lt BOX2.out
  simp only [List.getElem?_toArray, List.getElem?_cons_zero, List.getElem?_cons_succ] at z0 z1 z2
  go_wp2_with fail
  obtain ⟨Wd, hWd⟩ : ∃ Wd, Wd = (wq.setCell ⟨w.heap.size, 1, none⟩ (.string ((⟨t.toArray⟩ : ByteArray) ++ body))).alloc (.cells #[.int .i64 k, .int .i64 i, .int .i64 b, .int .i64 t.length, .int .i64 body.size] 89) := ⟨_, rfl⟩
  rw [← hWd]
  have hfd : Fr (· = w.heap.size) wq Wd := by
    rw [hWd]
    exact ((Fr.refl (· = w.heap.size) wq).setCell (p := ⟨w.heap.size, 1, none⟩) (fun _ => rfl) _).alloc _
  have hsd : Wd.heap.size = wq.heap.size + 1 := by
    rw [hWd]
    simp
  have BOXD : Hid (Wd.heap[w.heap.size]? = some (.cells #[.int .i64 size, .string ((⟨t.toArray⟩ : ByteArray) ++ body), .slice A l.length c] 86 (0, 0))) := hide (by
    rw [hWd]
    have := obj_alloc (obj_set BOX2.out 1 (.string ((⟨t.toArray⟩ : ByteArray) ++ body))) (.cells #[.int .i64 k, .int .i64 i, .int .i64 b, .int .i64 t.length, .int .i64 body.size] 89)
    simpa using this)
  have EOB : Hid (Wd.heap[wq.heap.size]? = some (.cells #[.int .i64 k, .int .i64 i, .int .i64 b, .int .i64 t.length, .int .i64 body.size] 89 (0, 0))) := hide (by
    rw [hWd]
    have := obj_new (wq.setCell ⟨w.heap.size, 1, none⟩ (.string ((⟨t.toArray⟩ : ByteArray) ++ body))) (.cells #[.int .i64 k, .int .i64 i, .int .i64 b, .int .i64 t.length, .int .i64 body.size] 89)
    simpa using this)
  have hb1z := hb1.size
  simp only [World.size_alloc] at hb1z
  have hbqz := hbq.size
  have hne1 : ¬ w.heap.size + 1 = w.heap.size := by omega
  have hne2 : ¬ w.heap.size + 1 + 1 = w.heap.size := by omega
  have T10 := hide (hfd.obj (obj_below (obj_below (obj_alloc (obj_new (w.alloc (.cells #[.int .i64 size, .string ⟨t.toArray⟩, .slice A l.length c] 86)) (.cells #[.int .i64 0, .string ⟨#[]⟩, .slice none 0 0] 86)) (.cells #[.int .i64 0, .int .i64 0, .int .i64 0, .int .i64 0, .int .i64 0] 89)) hb1) hbq) (by simp))
  have T11 := hide (hfd.obj (obj_below (obj_below (obj_new ((w.alloc (.cells #[.int .i64 size, .string ⟨t.toArray⟩, .slice A l.length c] 86)).alloc (.cells #[.int .i64 0, .string ⟨#[]⟩, .slice none 0 0] 86)) (.cells #[.int .i64 0, .int .i64 0, .int .i64 0, .int .i64 0, .int .i64 0] 89)) hb1) hbq) (by simp; omega))
  simp only [World.size_alloc] at T10 T11
  have HLN : Hid (∀ j, (Value.slice A l.length c).ownBlock = some j → ¬ j = w.heap.size) := hide (fun j hj e => by
    obtain ⟨_, cs, h⟩ := row_typed HE.out hj
    have := obj_lt h
    omega)
  have HL : Hid (OwE Wd B (.slice A l.length c) l) := hide (row_fr (row_below (row_below (row_below (row_below (row_below HE.out ((Below.refl w.heap.size w).alloc (Nat.le_refl _) (.cells #[.int .i64 size, .string ⟨t.toArray⟩, .slice A l.length c] 86))) ((Below.refl _ _).alloc (Nat.le_refl _) (.cells #[.int .i64 0, .string ⟨#[]⟩, .slice none 0 0] 86))) ((Below.refl _ _).alloc (Nat.le_refl _) (.cells #[.int .i64 0, .int .i64 0, .int .i64 0, .int .i64 0, .int .i64 0] 89))) hb1) hbq) hfd HLN.out)
  have HEN : Hid (¬ wq.heap.size = w.heap.size) := hide (by omega)
  have HBN : Hid (w.heap.size < Wd.heap.size) := hide (by omega)
  have HNB : Hid (w.heap.size + 1 + 1 < Wd.heap.size ∧ B ≤ Wd.heap.size) := hide ⟨by omega, by omega⟩
  have HQ : Hid (w.heap.size + 1 + 1 < wq.heap.size) := hide (by omega)
  have HBD : Hid (Below w.heap.size w Wd) := hide ((HB1.out.trans (hbq.mono (by omega))).trans (hfd.below _ (by omega) (fun i hi e => by omega)))
  clear hWd hfd hsd hb1z hbqz z0 z1 z2 f1 bl hb1 hbq
  refine wp_region_d (raddA (.agg #[.int .i64 size, .string ⟨t.toArray⟩, .slice A l.length c]) w.heap.size wq.heap.size size k i b t body ((⟨t.toArray⟩ : ByteArray) ++ body) (.slice A l.length c) l.length (9 + 28 * ((l.length : Int) + 1)) (size - (t.length : Int) - (9 + 28 * ((l.length : Int) + 1))) (.bool (decide (size - (t.length : Int) - (9 + 28 * ((l.length : Int) + 1)) < (body.size : Int))))) (fun _ => undef)
    (RaS Wd Wd.heap.size w.heap.size (.int .i64 size) (.string ((⟨t.toArray⟩ : ByteArray) ++ body)) (.slice A l.length c) l ⟨k, i, b, t.length, body.size⟩) (RaV w.heap.size A c l ⟨k, i, b, t.length, body.size⟩) rfl (by kernel_rfl) rfl
    ⟨(Fr.refl _ _).drew, fun _ => BOXD.out, fun h => (by cases h), fun h => (by cases h), fun h => (by cases h), fun h => (by cases h)⟩ ?_ ?_ ?_
  · exact ⟨fun x v => rfl, fun x v => rfl, fun x v => rfl, fun x v => rfl, fun x v => rfl, fun x v => rfl, fun x v => rfl, fun x v => rfl, trivial⟩
  · refine ⟨?_, ?_, ?_, ?_, ?_, ?_, ?_, ?_, trivial⟩
    · intro d x w' hS hdi hd hdd K hK
      refine ⟨rfl, ?_⟩
      unfold raddA at hK ⊢
      go_wp2
      exact hK (.pointer (some ⟨w.heap.size, 2, none⟩)) w' (hS) (by first | rfl | exact ⟨_, _, rfl⟩) (fun _ _ _ h => h)
    · intro d x w' hS hdi hd hdd K hK
      have d0 : x 0 = .pointer (some ⟨w.heap.size, 2, none⟩) := by first | exact hd _ List.mem_cons_self | exact hd _ (List.mem_cons_of_mem _ List.mem_cons_self) | exact hd _ (List.mem_cons_of_mem _ (List.mem_cons_of_mem _ List.mem_cons_self)) | exact hd _ (List.mem_cons_of_mem _ (List.mem_cons_of_mem _ (List.mem_cons_of_mem _ List.mem_cons_self))) | exact hd _ (List.mem_cons_of_mem _ (List.mem_cons_of_mem _ (List.mem_cons_of_mem _ (List.mem_cons_of_mem _ List.mem_cons_self))))
      refine ⟨rfl, ?_⟩
      unfold raddA at hK ⊢
      simp only [d0] at hK ⊢
      have z0 := obj_cell (ra_orig hS hdi) 0
      have z1 := obj_cell (ra_orig hS hdi) 1
      have z2 := obj_cell (ra_orig hS hdi) 2
      have hlt := obj_lt (ra_orig hS hdi)
      simp only [List.getElem?_toArray, List.getElem?_cons_zero, List.getElem?_cons_succ] at z0 z1 z2
      go_wp2
      exact hK (.slice A l.length c) w' (ra_load hS) (by first | rfl | exact ⟨_, _, rfl⟩) (fun _ _ _ h => h)
    · intro d x w' hS hdi hd hdd K hK
      have d0 : x 1 = .slice A l.length c := hd _ List.mem_cons_self
      obtain ⟨v', w2, hrun, hown, hb2⟩ := app_copy (N := Wd.heap.size) (row_fr HL.out hS.1 HLN.out) (by omega) hS.1.size
      obtain ⟨A4, c4, rfl⟩ := row_slice hown
      refine ⟨rfl, ?_⟩
      unfold raddA at hK ⊢
      simp only [d0] at hK ⊢
      refine wp_append_run (.const (.slice none 0 0)) (.tmp 53) 84 84 rfl rfl rfl hrun ?_
      exact hK _ w2 (ra_copy hS hown hb2) ⟨A4, c4, rfl⟩ (fun _ _ _ h => h)
    · intro d x w' hS hdi hd hdd K hK
      refine ⟨rfl, ?_⟩
      unfold raddA at hK ⊢
      have z0 := obj_cell (hS.1.obj EOB.out HEN.out) 0
      have z1 := obj_cell (hS.1.obj EOB.out HEN.out) 1
      have z2 := obj_cell (hS.1.obj EOB.out HEN.out) 2
      have z3 := obj_cell (hS.1.obj EOB.out HEN.out) 3
      have z4 := obj_cell (hS.1.obj EOB.out HEN.out) 4
      have hlt := obj_lt (hS.1.obj EOB.out HEN.out)
      simp only [List.getElem?_toArray, List.getElem?_cons_zero, List.getElem?_cons_succ] at z0 z1 z2 z3 z4
      go_wp2
      exact hK (.agg #[.int .i64 k, .int .i64 i, .int .i64 b, .int .i64 t.length, .int .i64 body.size]) w' (hS) (by first | rfl | exact ⟨_, _, rfl⟩) (fun _ _ _ h => h)
    · intro d x w' hS hdi hd hdd K hK
      have d0 : x 3 = .agg #[.int .i64 k, .int .i64 i, .int .i64 b, .int .i64 t.length, .int .i64 body.size] := hd _ List.mem_cons_self
      refine ⟨rfl, ?_⟩
      unfold raddA at hK ⊢
      simp only [d0] at hK ⊢
      go_wp2
      exact hK (.slice (some ⟨w'.heap.size, 0, none⟩) 1 1) _ (ra_build hS) ⟨_, rfl⟩ (fun _ _ _ h => h)
    · intro d x w' hS hdi hd hdd K hK
      obtain ⟨A4, c4, d0⟩ : ∃ A c, x 2 = .slice A l.length c := hd _ List.mem_cons_self
      obtain ⟨g', d1⟩ : ∃ g', x 4 = .slice (some ⟨g', 0, none⟩) 1 1 := by first | exact hd _ (List.mem_cons_of_mem _ List.mem_cons_self) | exact hd _ (List.mem_cons_of_mem _ (List.mem_cons_of_mem _ List.mem_cons_self))
      have h2 : d 2 = true := hdd _ List.mem_cons_self
      have h4 : d 4 = true := by first | exact hdd _ (List.mem_cons_of_mem _ List.mem_cons_self) | exact hdd _ (List.mem_cons_of_mem _ (List.mem_cons_of_mem _ List.mem_cons_self))
      have hro := hS.2.2.2.1 h2 hdi
      obtain ⟨g2, d2, hob⟩ := hS.2.2.2.2.1 h4 hdi
      rw [d1] at d2
      cases d2
      have hro2 := hro
      rw [d0] at hro
      obtain ⟨v', w2, hrun, hown, hf2, hblk⟩ := app_ent hro ⟨k, i, b, t.length, body.size⟩ hob (by omega) hS.1.size 84
      obtain ⟨A5, c5, rfl⟩ := row_slice hown
      refine ⟨rfl, ?_⟩
      unfold raddA at hK ⊢
      simp only [d0, d1] at hK ⊢
      refine wp_append_run (.tmp 54) (.tmp 56) 84 84 rfl rfl rfl hrun ?_
      exact hK _ w2 (ra_app hS hdi HBN.out (Nat.le_refl _) hro2 hown (by rw [d0]; exact hf2)) ⟨A5, _, c5, rfl⟩ (fun _ _ _ h => h)
    · intro d x w' hS hdi hd hdd K hK
      refine ⟨rfl, ?_⟩
      unfold raddA at hK ⊢
      go_wp2
      exact hK (.pointer (some ⟨w.heap.size, 2, none⟩)) w' (hS) (by first | rfl | exact ⟨_, _, rfl⟩) (fun _ _ _ h => h)
    · intro d x w' hS hdi hd hdd K hK
      have d0 : x 6 = .pointer (some ⟨w.heap.size, 2, none⟩) := hd _ List.mem_cons_self
      have h5 : d 5 = true := hdd _ (List.mem_cons_of_mem _ List.mem_cons_self)
      obtain ⟨A5, n5, c5, d1⟩ : ∃ A n c, x 5 = .slice A n c := hd _ (List.mem_cons_of_mem _ List.mem_cons_self)
      have h1 : d 1 = true := by first | exact hdd _ List.mem_cons_self | exact hdd _ (List.mem_cons_of_mem _ List.mem_cons_self) | exact hdd _ (List.mem_cons_of_mem _ (List.mem_cons_of_mem _ List.mem_cons_self)) | exact hdd _ (List.mem_cons_of_mem _ (List.mem_cons_of_mem _ (List.mem_cons_of_mem _ List.mem_cons_self))) | exact hdd _ (List.mem_cons_of_mem _ (List.mem_cons_of_mem _ (List.mem_cons_of_mem _ (List.mem_cons_of_mem _ List.mem_cons_self)))) | exact hdd _ (List.mem_cons_of_mem _ (List.mem_cons_of_mem _ (List.mem_cons_of_mem _ (List.mem_cons_of_mem _ (List.mem_cons_of_mem _ List.mem_cons_self))))) | exact hdd _ (List.mem_cons_of_mem _ (List.mem_cons_of_mem _ (List.mem_cons_of_mem _ (List.mem_cons_of_mem _ (List.mem_cons_of_mem _ (List.mem_cons_of_mem _ List.mem_cons_self)))))) | exact hdd _ (List.mem_cons_of_mem _ (List.mem_cons_of_mem _ (List.mem_cons_of_mem _ (List.mem_cons_of_mem _ (List.mem_cons_of_mem _ (List.mem_cons_of_mem _ (List.mem_cons_of_mem _ List.mem_cons_self))))))) | exact hdd _ (List.mem_cons_of_mem _ (List.mem_cons_of_mem _ (List.mem_cons_of_mem _ (List.mem_cons_of_mem _ (List.mem_cons_of_mem _ (List.mem_cons_of_mem _ (List.mem_cons_of_mem _ (List.mem_cons_of_mem _ List.mem_cons_self)))))))) | exact hdd _ (List.mem_cons_of_mem _ (List.mem_cons_of_mem _ (List.mem_cons_of_mem _ (List.mem_cons_of_mem _ (List.mem_cons_of_mem _ (List.mem_cons_of_mem _ (List.mem_cons_of_mem _ (List.mem_cons_of_mem _ (List.mem_cons_of_mem _ List.mem_cons_self))))))))) | exact hdd _ (List.mem_cons_of_mem _ (List.mem_cons_of_mem _ (List.mem_cons_of_mem _ (List.mem_cons_of_mem _ (List.mem_cons_of_mem _ (List.mem_cons_of_mem _ (List.mem_cons_of_mem _ (List.mem_cons_of_mem _ (List.mem_cons_of_mem _ (List.mem_cons_of_mem _ List.mem_cons_self)))))))))) | exact hdd _ (List.mem_cons_of_mem _ (List.mem_cons_of_mem _ (List.mem_cons_of_mem _ (List.mem_cons_of_mem _ (List.mem_cons_of_mem _ (List.mem_cons_of_mem _ (List.mem_cons_of_mem _ (List.mem_cons_of_mem _ (List.mem_cons_of_mem _ (List.mem_cons_of_mem _ (List.mem_cons_of_mem _ List.mem_cons_self)))))))))))
      have hbx := hS.2.1 hdi
      have y := obj_cell hbx 2
      have fz := obj_frozen hbx 2
      simp only [List.getElem?_toArray, List.getElem?_cons_zero, List.getElem?_cons_succ] at y
      have HS := hide (ra_store hS h1 h5 hdi HBN.out (.bool true))
      rw [d1] at HS
      refine ⟨rfl, ?_⟩
      unfold raddA at hK ⊢
      simp only [d0, d1] at hK ⊢
      clear hS hbx
      go_wp2
      exact hK (.bool true) _ HS.out trivial (fun _ _ _ h => h)
  · intro d x w' hS hall hv
    obtain ⟨A5, n5, c5, e5⟩ : ∃ A n c, x 5 = .slice A n c := hv 5 (by decide)
    obtain ⟨hf, _, hbx, _, _, hrow⟩ := hS
    have hbx := (hbx (hall 7 (by decide))).2.2
    have hrow := hrow (hall 5 (by decide))
    rw [e5] at hbx hrow
    unfold raddA
    simp only [e5]
    have E' := hide (hf.obj EOB.out HEN.out)
    have R10 := hide (hf.obj T10.out hne1)
    have R11 := hide (hf.obj T11.out hne2)
    have HR := hide hrow
    have HF := hide hf
    have b0 := obj_cell hbx 0
    have b1 := obj_cell hbx 1
    have b2 := obj_cell hbx 2
    have e0 := obj_cell E'.out 0
    have e1 := obj_cell E'.out 1
    have e2 := obj_cell E'.out 2
    have e3 := obj_cell E'.out 3
    have e4 := obj_cell E'.out 4
    have r0 := obj_cell R10.out 0
    have r1 := obj_cell R10.out 1
    have r2 := obj_cell R10.out 2
    have s0 := obj_cell R11.out 0
    have s1 := obj_cell R11.out 1
    have s2 := obj_cell R11.out 2
    have s3 := obj_cell R11.out 3
    have s4 := obj_cell R11.out 4
    have fr0 := obj_frozen R10.out 0
    have fr1 := obj_frozen R10.out 1
    have fr2 := obj_frozen R10.out 2
    have fs0 := obj_frozen R11.out 0
    have fs1 := obj_frozen R11.out 1
    have fs2 := obj_frozen R11.out 2
    have fs3 := obj_frozen R11.out 3
    have fs4 := obj_frozen R11.out 4
    have l1 := obj_lt hbx
    have l2 := obj_lt E'.out
    simp only [List.getElem?_toArray, List.getElem?_cons_zero, List.getElem?_cons_succ] at b0 b1 b2 e0 e1 e2 e3 e4 r0 r1 r2 s0 s1 s2 s3 s4
    have hq := HQ.out
    have hq1 : ¬ wq.heap.size = w.heap.size + 1 := by omega
    have hq2 : ¬ wq.heap.size = w.heap.size + 1 + 1 := by omega
    clear hbx hrow hf hall hv
    go_wp2_with fail
    go_region
    go_wp2
    rw [str_app]
    have hF3 : Fr (· = w.heap.size + 1) w' (((w'.setCell ⟨w.heap.size + 1, 0, none⟩ (.int .i64 size)).setCell ⟨w.heap.size + 1, 1, none⟩ (.string ⟨(t ++ body.data.toList).toArray⟩)).setCell ⟨w.heap.size + 1, 2, none⟩ (.slice A5 n5 c5)) :=
      (((Fr.refl (· = w.heap.size + 1) w').setCell (p := ⟨w.heap.size + 1, 0, none⟩) (fun _ => rfl) _).setCell (p := ⟨w.heap.size + 1, 1, none⟩) (fun _ => rfl) _).setCell (p := ⟨w.heap.size + 1, 2, none⟩) (fun _ => rfl) _
    have hT3 := three_setT (w := w') R10.out (.int .i64 size) (.string ⟨(t ++ body.data.toList).toArray⟩) (.slice A5 n5 c5)
    have hR11 := hF3.obj R11.out (by omega)
    have hR3 := row_fr HR.out hF3 (fun j hj he => by
      have := (row_typed HR.out hj).1
      have := HNB.out.1
      omega)
    have hB3 := (HBD.out.trans ((HF.out.below w.heap.size HBD.out.size (fun i hi e => by omega)))).trans (hF3.below w.heap.size (Nat.le_trans HBD.out.size HF.out.size) (fun i hi e => by omega))
    generalize ((w'.setCell ⟨w.heap.size + 1, 0, none⟩ (.int .i64 size)).setCell ⟨w.heap.size + 1, 1, none⟩ (.string ⟨(t ++ body.data.toList).toArray⟩)).setCell ⟨w.heap.size + 1, 2, none⟩ (.slice A5 n5 c5) = w3 at hT3 hR11 hR3 hB3 ⊢
    have hF5 : Fr (· = w.heap.size + 1 + 1) w3 (((((w3.setCell ⟨w.heap.size + 1 + 1, 0, none⟩ (.int .i64 k)).setCell ⟨w.heap.size + 1 + 1, 1, none⟩ (.int .i64 i)).setCell ⟨w.heap.size + 1 + 1, 2, none⟩ (.int .i64 b)).setCell ⟨w.heap.size + 1 + 1, 3, none⟩ (.int .i64 t.length)).setCell ⟨w.heap.size + 1 + 1, 4, none⟩ (.int .i64 body.size)) := five_fr (F := (· = w.heap.size + 1 + 1)) (Fr.refl _ w3) (fun _ => rfl)
    have hT5 := five_setT hR11 (.int .i64 k) (.int .i64 i) (.int .i64 b) (.int .i64 t.length) (.int .i64 body.size)
    have hT3' := hF5.obj hT3 (by omega)
    have hR5 := row_fr hR3 hF5 (fun j hj he => by
      have := (row_typed hR3 hj).1
      have := HNB.out.1
      omega)
    have hB5 := hB3.trans (hF5.below w.heap.size hB3.size (fun i hi e => by omega))
    generalize ((((w3.setCell ⟨w.heap.size + 1 + 1, 0, none⟩ (.int .i64 k)).setCell ⟨w.heap.size + 1 + 1, 1, none⟩ (.int .i64 i)).setCell ⟨w.heap.size + 1 + 1, 2, none⟩ (.int .i64 b)).setCell ⟨w.heap.size + 1 + 1, 3, none⟩ (.int .i64 t.length)).setCell ⟨w.heap.size + 1 + 1, 4, none⟩ (.int .i64 body.size) = w5 at hT3' hT5 hR5 hB5 ⊢
    refine bodyPost_ret (res_cct rfl _ _ (w.heap.size + 1) (w.heap.size + 1 + 1) 86 89 _ _ _ _ _ _ rfl hT3' Try.underlying86 rfl (by kernel_rfl) rfl hT5 Try.underlying89 rfl (by kernel_rfl)) rfl ⟨.slice A5 n5 c5, rfl, ?_, ?_⟩
    · exact row_base hR5 (by have := HNB.out.1; omega)
    · exact ⟨hB5.os, hB5.tape, hB5.output, hB5.size, hB5.block⟩
end Go.Proofs.Ytljmaicobafgkaa
