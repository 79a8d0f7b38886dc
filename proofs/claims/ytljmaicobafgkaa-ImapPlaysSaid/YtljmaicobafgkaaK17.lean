/- A join of 3 texts of this claim: Im10, ImD, ImW1. Conditions: none of their own. -/
import Derived.Test.YtljmaicobafgkaaK16
import Derived.Test.YtljmaicobafgkaaK0
import Derived.Lib.SmallJoins
import Derived.Deep.Slices
import Derived.Deep.Fields
import Derived.ChangeSame
section
/- Chapter 25, imap: the example. -/
namespace Go.Proofs.Ytljmaicobafgkaa
open Go.RowKit

theorem entUp_congr {M M' : Nat → Spot} : ∀ k, (∀ i, i < k → (M' i).ver = (M i).ver ∧ (0 < (M i).ver → M' i = M i)) → entUp M' k = entUp M k
  | 0, _ => rfl
  | k + 1, h => by
    have ih := entUp_congr k (fun i hi => h i (by omega))
    obtain ⟨h1, h2⟩ := h k (by omega)
    by_cases hv : 0 < (M k).ver
    · rw [entUp_hit M hv, entUp_hit M' (by omega), ih, h2 hv]
    · rw [entUp_miss M hv, entUp_miss M' (by omega), ih]
def x25 : Spot := ⟨3, 1, 5, 0⟩
def y25 : Spot := ⟨3, 1, 5, 1⟩
def z25 : Nat → Spot := fun _ => noSpot
def m25 : Nat → Spot := upd z25 7 y25
theorem mok_zero : Mok z25 := ⟨rfl, fun _ _ => by
  show 0 ≤ noSpot.ver ∧ noSpot.ver ≤ 1099511627776 ∧ noSpot.ok
  decide⟩
theorem bodyB_le : ∀ l : List (Nat × Spot), (∀ p ∈ l, p.1 < 256 ∧ p.2.ok ∧ 0 ≤ p.2.ver ∧ p.2.ver ≤ 1099511627776) → (bodyB l).length ≤ 50 * l.length
  | [], _ => by simp [bodyB]
  | p :: l, h => by
    have h1 := SpX.entB_len ⟨p, h p List.mem_cons_self⟩
    have h2 := bodyB_le l (fun q hq => h q (List.mem_cons_of_mem _ hq))
    have h3 : bodyB (p :: l) = entB25 p ++ bodyB l := by simp [bodyB]
    have h4 : (entB25 p).length ≤ 50 := h1
    rw [h3, List.length_append, List.length_cons]
    omega
theorem entUp_mem {M : Nat → Spot} {k : Nat} {p : Nat × Spot} (h : p ∈ entUp M k) : p.1 < k ∧ p.2 = M p.1 ∧ 0 < p.2.ver := by
  unfold entUp at h
  rw [List.mem_filter, List.mem_map] at h
  obtain ⟨⟨i, hi, rfl⟩, hv⟩ := h
  exact ⟨List.mem_range.1 hi, rfl, by simpa using hv⟩
theorem textB25_len {M : Nat → Spot} (hm : Mok M) : (textB25 M).length ≤ 12810 := by
  have h1 := bodyB_le (entUp M 256) (fun p hp => by
    obtain ⟨a, b, _⟩ := entUp_mem hp
    have c := hm.2 p.1 a
    rw [← b] at c
    exact ⟨a, c.2.2, c.1, c.2.1⟩)
  have h2 := entUp_len M 256
  have h3 := num_ten25 ((entUp M 256).length : Int) (by omega) (by omega)
  unfold textB25
  rw [List.length_append]
  omega
theorem m25_ok : Mok m25 := ⟨rfl, fun i _ => by
  by_cases h : i = 7
  · subst h
    decide
  · rw [show m25 i = noSpot from upd_other _ _ h]
    decide⟩
theorem m25_small : ∀ i, i < 256 → (m25 i).ver < 2147483648 := fun i _ => by
  by_cases h : i = 7
  · subst h
    decide
  · rw [show m25 i = noSpot from upd_other _ _ h]
    decide
theorem mv25a : mvOut z25 7 0 x25 = (m25, 1, 0) := by
  unfold mvOut
  rw [if_neg (by decide), if_neg (by decide)]
  rfl
theorem mv25b : mvOut m25 7 0 x25 = (m25, 0, 10) := by
  unfold mvOut
  rw [if_neg (by decide), if_pos (by decide)]
theorem gt25 : gtOut m25 7 = (y25, true) := by
  unfold gtOut
  rw [if_neg (by decide)]
  rfl
theorem dp25a : dpOut m25 7 1 = (upd m25 7 noSpot, 0) := by
  unfold dpOut
  rw [if_neg (by decide), if_neg (by decide), if_pos (by decide)]
  rfl
theorem dp25b : dpOut (upd m25 7 noSpot) 7 1 = (upd m25 7 noSpot, 7) := by
  unfold dpOut
  rw [if_neg (by decide), if_pos (by decide)]
theorem ent25 : entUp m25 256 = [(7, y25)] := by kernel_rfl
theorem live25 : liveW 3 [(7, y25)] = 5 := by kernel_rfl
theorem free25 {r : Nat} (h : FreeN m25 r) : r = 2 := FreeN.uniq (M := m25) (.inr ⟨by decide, by decide, by decide, fun i h1 h2 => by omega⟩) h
def Awake25 : Prop := ∀ w : World, Calls Try.prog 25 #[] w fun e w' => e = .returned (.bool true) ∧ Below w.heap.size w w'
set_option maxHeartbeats 8000000 in
set_option maxRecDepth 1000000 in
theorem awake25 : Awake25 := by
  intro w
  go_enter Try.func25, Try.ntmps25
  go_wp2_with fail
  refine (new25_any _).mono ?_
  rintro e w1 ⟨rfl, hm1, hb1⟩
  obtain ⟨g, hg⟩ : ∃ g, g = w.heap.size := ⟨_, rfl⟩
  rw [← hg] at hm1 ⊢
  have HG := hide hg
  have hgl := hm1.lt
  have hm2 := hm1.below ((Below.refl _ _).alloc (Nat.le_refl _) (.cells #[.int .i64 3, .int .i64 1, .int .i64 5, .int .i64 0] 27))
  have HX := hide (obj_new w1 (.cells #[.int .i64 3, .int .i64 1, .int .i64 5, .int .i64 0] 27))
  have hb2 := hb1.alloc hb1.size (.cells #[.int .i64 3, .int .i64 1, .int .i64 5, .int .i64 0] 27)
  have HB2 := hide hb2
  clear hm1 hb1 hg hb2
  have hne : ¬ w1.heap.size = g := by omega
  go_wp2_with fail
  refine (move_any g z25 7 0 x25 _ hm2 mok_zero).mono ?_
  rintro e w2 ⟨he, hm3, hf3⟩
  rw [mv25a] at he hm3
  subst he
  have HM3 := hide hm3
  have HX3 := hide (hf3.obj HX.out hne)
  have HB3 := hide (HB2.out.trans (hf3.below _ HB2.out.size (fun k hk e => by have := HG.out; omega)))
  have a0 := obj_cell HX3.out 0
  have a1 := obj_cell HX3.out 1
  have a2 := obj_cell HX3.out 2
  have a3 := obj_cell HX3.out 3
  simp only [List.getElem?_toArray, List.getElem?_cons_zero, List.getElem?_cons_succ] at a0 a1 a2 a3
  clear hm2 hm3 hf3
  go_wp2_with fail
  refine (move_any g m25 7 0 x25 _ HM3.out m25_ok).mono ?_
  rintro e w3 ⟨he, hm4, hf4⟩
  rw [mv25b] at he hm4
  subst he
  have HM4 := hide hm4
  have HB4 := hide (HB3.out.trans (hf4.below _ HB3.out.size (fun k hk e => by have := HG.out; omega)))
  clear hm4 hf4 a0 a1 a2 a3
  go_wp2_with fail
  refine (get_any g m25 7 _ HM4.out).mono ?_
  rintro e w4 ⟨he, hb5⟩
  rw [gt25] at he
  subst he
  have HM5 := hide ((HM4.out.below hb5).below ((Below.refl _ _).alloc (Nat.le_refl _) (.cells #[.int .i64 3, .int .i64 1, .int .i64 5, .int .i64 1] 27)))
  have HB5 := hide ((HB4.out.trans (hb5.mono HB4.out.size)).alloc (HB4.out.trans (hb5.mono HB4.out.size)).size (.cells #[.int .i64 3, .int .i64 1, .int .i64 5, .int .i64 1] 27))
  have HY5 := hide (obj_new w4 (.cells #[.int .i64 3, .int .i64 1, .int .i64 5, .int .i64 1] 27))
  clear hb5
  simp only [y25]
  go_wp2_with fail
  refine (live_any g m25 3 _ HM5.out).mono ?_
  rintro e w5 ⟨he, hb6⟩
  rw [ent25, live25] at he
  subst he
  have HM6 := hide (HM5.out.below hb6)
  have HB6 := hide (HB5.out.trans (hb6.mono HB5.out.size))
  have HY6 := hide (obj_below HY5.out hb6)
  clear hb6
  go_wp2_with fail
  refine (mtext_any g m25 _ HM6.out m25_ok).mono ?_
  rintro e w6 ⟨rfl, hb7⟩
  have HM7 := hide (HM6.out.below hb7)
  have HB7 := hide (HB6.out.trans (hb7.mono HB6.out.size))
  have HY7 := hide (obj_below HY6.out hb7)
  clear hb7
  have htl : (textB25 m25).length ≤ 1073741824 := Nat.le_trans (textB25_len m25_ok) (by decide)
  obtain ⟨o, ho⟩ : ∃ o, o = textB25 m25 := ⟨_, rfl⟩
  rw [← ho] at htl ⊢
  have HO := hide ho
  clear ho
  go_wp2_with fail
  refine (read25_any ⟨o.toArray⟩ _ (by rw [str_size]; exact htl)).mono ?_
  rintro e w7 ⟨hp, hb8⟩
  obtain ⟨M', hr, hm', hq, hv⟩ := rd_text m25_ok m25_small
  unfold RdPost at hp
  rw [str_list, HO.out, hr] at hp
  obtain ⟨g2, rfl, hI2, hg2⟩ := hp
  have he' : entUp M' 256 = [(7, y25)] := by
    rw [← ent25]
    exact entUp_congr 256 (fun i hi => ⟨hv i hi, fun h => by rw [hq i hi, if_pos h]⟩)
  have HM8 := hide (HM7.out.below hb8)
  have HB8 := hide (HB7.out.trans (hb8.mono HB7.out.size))
  have HY8 := hide (obj_below HY7.out hb8)
  have HE := hide he'
  have HI8 := hide hI2
  clear hb8 hr hm' hq hv he' hI2 hg2
  have b0 := obj_cell HY8.out 0
  have b1 := obj_cell HY8.out 1
  have b2 := obj_cell HY8.out 2
  have b3 := obj_cell HY8.out 3
  simp only [List.getElem?_toArray, List.getElem?_cons_zero, List.getElem?_cons_succ] at b0 b1 b2 b3
  go_wp2_with fail
  refine (all_any g2 M' _ HI8.out).mono ?_
  rintro e w8 ⟨v8, rfl, hO, hb9⟩
  rw [HE.out] at hO
  have HO9 := hide (IntArg.of_row hO)
  have HM9 := hide (HM8.out.below hb9)
  have HB9 := hide (HB8.out.trans (hb9.mono HB8.out.size))
  clear hb9 hO
  have hl7 : IntArg (w8.alloc (.cells #[.int .i64 7] 3)) (.slice (some ⟨w8.heap.size, 0, none⟩) 1 1) [(7, y25)] := .inr ⟨_, _, rfl, Nat.le_refl _, fun i hi => by
    have hi' : i < 1 := hi
    obtain rfl : i = 0 := by omega
    exact obj_cell (obj_new w8 (.cells #[.int .i64 7] 3)) 0⟩
  have HL7 := hide hl7
  clear hl7
  go_wp2_with fail
  refine (ints_yes _ _ [(7, y25)] _ (by decide) (HO9.out.below ((Below.refl _ _).alloc (Nat.le_refl _) _)) HL7.out).mono ?_
  rintro e w9 ⟨rfl, hb10⟩
  have hbx : Below w8.heap.size w8 w9 := ((Below.refl w8.heap.size w8).alloc (Nat.le_refl _) (.cells #[.int .i64 7] 3)).trans (hb10.mono (by simp))
  have HM10 := hide (HM9.out.below hbx)
  have HB10 := hide (HB9.out.trans (hbx.mono HB9.out.size))
  clear hb10 hbx
  go_wp2_with fail
  refine (free_any g m25 _ HM10.out).mono ?_
  rintro e w10 ⟨⟨r, hr, rfl⟩, rfl⟩
  obtain rfl := free25 hr
  clear hr
  go_wp2_with fail
  refine (drop_any g m25 7 1 _ HM10.out).mono ?_
  rintro e w11 ⟨he, hm11, hf11⟩
  rw [dp25a] at he hm11
  subst he
  have HM11 := hide hm11
  have HB11 := hide (HB10.out.trans (hf11.below _ HB10.out.size (fun k hk e => by have := HG.out; omega)))
  clear hm11 hf11
  go_wp2_with fail
  refine (drop_any g (upd m25 7 noSpot) 7 1 _ HM11.out).mono ?_
  rintro e w12 ⟨he, hm12, hf12⟩
  rw [dp25b] at he
  subst he
  have HB12 := hide (HB11.out.trans (hf12.below _ HB11.out.size (fun k hk e => by have := HG.out; omega)))
  clear hm12 hf12
  go_wp2
  go_ret
  exact ⟨rfl, HB12.out⟩
end Go.Proofs.Ytljmaicobafgkaa
end
section
/- Chapter 25, imap: a deed, and a slice of deeds, as a row hands them. -/
namespace Go.Proofs.Ytljmaicobafgkaa
open Go.Joins Go.ChangeShapes Go.WideShapes Go.RowKit Go.Deep

/-- A deed. -/
structure Deed where
  kind : Int
  inode : Int
  ver : Int
  sp : Spot
  now : Bool
def Deed.cells (d : Deed) : List Value := [.int .i64 d.kind, .int .i64 d.inode, .int .i64 d.ver, .int .i64 d.sp.seg, .int .i64 d.sp.frm, .int .i64 d.sp.len, .int .i64 d.sp.ver, .bool d.now]
def in64 (n : Int) : Prop := (Lit.int .i64 n).wf = true
def Deed.wf (d : Deed) : Prop := in64 d.kind ∧ in64 d.inode ∧ in64 d.ver ∧ in64 d.sp.seg ∧ in64 d.sp.frm ∧ in64 d.sp.len ∧ in64 d.sp.ver
section
variable {H : Type} {enc : TypeId × Value → H} {w : World} {base : Nat} {spare : Nat → Bool} {held : Bool}
set_option maxRecDepth 100000 in
theorem trod_spot {fuel : Nat} {cs : List Value} {x : DataW H × List MemPlace} (h : DataW.trod enc Try.prog w base spare held fuel 27 cs = some x) :
    ∃ s : Spot, cs = [.int .i64 s.seg, .int .i64 s.frm, .int .i64 s.len, .int .i64 s.ver] ∧ in64 s.seg ∧ in64 s.frm ∧ in64 s.len ∧ in64 s.ver := by
  obtain ⟨xs, n, _, _, hlen, hxl, hf⟩ := DataW.trod_struct Try.underlying27 h
  rw [show Try.prog.cellsOf 27 = 4 from by kernel_rfl] at hlen
  match cs, hlen with
  | [c0, c1, c2, c3], _ =>
    match xs, hxl with
    | [y0, y1, y2, y3], _ =>
      have e3 : Try.prog.cellsOf 3 = 1 := by kernel_rfl
      have h0 := hf 0 _ rfl
      have h1 := hf 1 _ rfl
      have h2 := hf 2 _ rfl
      have h3 := hf 3 _ rfl
      simp only [List.getElem_toArray, List.getElem_cons_succ, List.getElem_cons_zero, e3, List.drop_zero, List.drop_succ_cons, List.take_succ_cons, List.take_zero, List.getElem?_cons_zero, List.getElem?_cons_succ] at h0 h1 h2 h3
      obtain ⟨a0, e0, _, w0⟩ := DataW.trod_int (k := .i64) (by kernel_rfl) h0
      obtain ⟨a1, e1, _, w1⟩ := DataW.trod_int (k := .i64) (by kernel_rfl) h1
      obtain ⟨a2, e2, _, w2⟩ := DataW.trod_int (k := .i64) (by kernel_rfl) h2
      obtain ⟨a3, e3', _, w3⟩ := DataW.trod_int (k := .i64) (by kernel_rfl) h3
      simp only [List.cons.injEq, and_true] at e0 e1 e2 e3'
      subst e0 e1 e2 e3'
      exact ⟨⟨a0, a1, a2, a3⟩, rfl, w0, w1, w2, w3⟩
set_option maxRecDepth 100000 in
theorem trod_deed {fuel : Nat} {cs : List Value} {x : DataW H × List MemPlace} (h : DataW.trod enc Try.prog w base spare held fuel 32 cs = some x) :
    ∃ d : Deed, cs = d.cells ∧ d.wf := by
  obtain ⟨xs, n, _, _, hlen, hxl, hf⟩ := DataW.trod_struct Try.underlying32 h
  rw [show Try.prog.cellsOf 32 = 8 from by kernel_rfl] at hlen
  match cs, hlen with
  | [c0, c1, c2, c3, c4, c5, c6, c7], _ =>
    match xs, hxl with
    | [y0, y1, y2, y3, y4], _ =>
      have e3 : Try.prog.cellsOf 3 = 1 := by kernel_rfl
      have e4 : Try.prog.cellsOf 4 = 1 := by kernel_rfl
      have e27 : Try.prog.cellsOf 27 = 4 := by kernel_rfl
      have h0 := hf 0 _ rfl
      have h1 := hf 1 _ rfl
      have h2 := hf 2 _ rfl
      have h3 := hf 3 _ rfl
      have h4 := hf 4 _ rfl
      simp only [List.getElem_toArray, List.getElem_cons_succ, List.getElem_cons_zero, e3, e4, e27, List.drop_zero, List.drop_succ_cons, List.take_succ_cons, List.take_zero, List.getElem?_cons_zero, List.getElem?_cons_succ] at h0 h1 h2 h3 h4
      obtain ⟨a0, e0, _, w0⟩ := DataW.trod_int (k := .i64) (by kernel_rfl) h0
      obtain ⟨a1, e1, _, w1⟩ := DataW.trod_int (k := .i64) (by kernel_rfl) h1
      obtain ⟨a2, e2, _, w2⟩ := DataW.trod_int (k := .i64) (by kernel_rfl) h2
      obtain ⟨s, es, ws⟩ := trod_spot h3
      obtain ⟨b, eb, _⟩ := DataW.trod_bool (by kernel_rfl) h4
      simp only [List.cons.injEq, and_true] at e0 e1 e2 es eb
      obtain ⟨es0, es1, es2, es3⟩ := es
      subst e0 e1 e2 es0 es1 es2 es3 eb
      exact ⟨⟨a0, a1, a2, s, b⟩, rfl, w0, w1, w2, ws⟩
set_option maxRecDepth 100000 in
theorem open_deed {r : Reach} {b0 : Nat} {v : Value} {d : DataW H} {p : List MemPlace} (hv : Value.okWide Try.prog w r b0 32 v) (h : DataW.Trod enc Try.prog w base spare held 32 v d p) :
    ∃ x : Deed, v = .agg x.cells.toArray ∧ x.wf := by
  obtain ⟨cs, rfl, _⟩ := okWide_struct Try.underlying32 hv
  obtain ⟨fuel, hf⟩ := h
  obtain ⟨x, hx, hw⟩ := trod_deed hf
  refine ⟨x, ?_, hw⟩
  rw [← hx]
  simp [Value.cells]
/-- The argument v reads as the deeds l. -/
def DeedArg (w : World) (v : Value) (l : List Deed) : Prop :=
  (v = .slice none 0 0 ∧ l = []) ∨ ∃ (a : Addr) (cap : Nat), v = .slice (some a) l.length cap ∧ l.length ≤ cap ∧ cap ≤ maxLen ∧
    ∀ i (hi : i < l.length), ∀ (j : Nat) (u : Value), l[i].cells[j]? = some u → w.cell? (a.add (i * 8 + j)) = some u
theorem list_ofD {α : Type} {q : Nat → α → Prop} : ∀ (n : Nat), (∀ i, i < n → ∃ x, q i x) → ∃ l : List α, l.length = n ∧ ∀ i (hi : i < l.length), q i l[i]
  | 0, _ => ⟨[], rfl, fun i hi => by simp at hi⟩
  | n + 1, h => by
    obtain ⟨l, hl, hq⟩ := list_ofD n (fun i hi => h i (by omega))
    obtain ⟨x, hx⟩ := h n (by omega)
    refine ⟨l ++ [x], by simp [hl], fun i hi => ?_⟩
    rcases Nat.lt_or_ge i l.length with h1 | h1
    · rw [List.getElem_append_left h1]
      exact hq i h1
    · obtain rfl : i = l.length := by simp at hi; omega
      simp only [List.getElem_concat_length]
      rw [hl]
      exact hx
set_option maxRecDepth 100000 in
theorem open_deeds {r : Reach} {b0 : Nat} {v : Value} {d : DataW H} {p : List MemPlace}
    (hv : Value.okWide Try.prog w r b0 22 v) (h : DataW.Trod enc Try.prog w base spare held 22 v d p) :
    ∃ l : List Deed, DeedArg w v l ∧ ∀ x ∈ l, x.wf := by
  obtain ⟨A, n0, c0, rfl⟩ := okWide_slice Try.underlying22 hv
  obtain ⟨fuel, hf⟩ := h
  rcases open_slice Try.underlying22 hf with ⟨hcs, hx⟩ | ⟨a, len, cap, m, n, D, Pl, hcs, hb, hl, hm, hmm, hx, hi⟩
  · simp only [Value.cells, List.cons.injEq, Value.slice.injEq, and_true] at hcs
    exact ⟨[], .inl ⟨by rw [hcs.1, hcs.2.1, hcs.2.2], rfl⟩, fun x hx => by simp at hx⟩
  · simp only [Value.cells, List.cons.injEq, Value.slice.injEq, and_true] at hcs
    obtain ⟨rfl, rfl, rfl⟩ := hcs
    have hlm : n0 ≤ m := by rw [hmm]; split <;> omega
    rw [show Try.prog.cellsOf 32 = 8 from by kernel_rfl] at hi
    obtain ⟨l, hll, hq⟩ := list_ofD (α := Deed) (q := fun i x => x.wf ∧ ∀ (j : Nat) (u : Value), x.cells[j]? = some u → w.cell? (a.add (i * 8 + j)) = some u) n0 (fun i hil => by
      obtain ⟨cs', hc, ht⟩ := hi i (by omega)
      obtain ⟨x, rfl, hw⟩ := trod_deed ht
      obtain ⟨_, hcl, hat⟩ := World.cells?_some hc
      refine ⟨x, hw, fun j u hu => ?_⟩
      have hj : j < 8 := (List.getElem?_eq_some_iff.1 hu).1
      have h1 := hat j hj
      rw [Go.Deep.add_add] at h1
      exact h1.trans hu)
    subst hll
    refine ⟨l, .inr ⟨a, c0, rfl, hl, hm, fun i hi => (hq i hi).2⟩, fun x hx => ?_⟩
    obtain ⟨i, hi, rfl⟩ := List.getElem_of_mem hx
    exact (hq i hi).1
end
theorem DeedArg.below {w w' : World} {v : Value} {l : List Deed} (h : DeedArg w v l) (hb : Below w.heap.size w w') : DeedArg w' v l := by
  rcases h with h | ⟨a, cap, rfl, h1, h2, h3⟩
  · exact .inl h
  · exact .inr ⟨a, cap, rfl, h1, h2, fun i hi j u hu => (hb.cell (World.block_lt_of_cell? _ _ (h3 i hi j u hu))).trans (h3 i hi j u hu)⟩
theorem DeedArg.slice {w : World} {v : Value} {l : List Deed} (h : DeedArg w v l) : ∃ A c, v = .slice A l.length c := by
  rcases h with ⟨rfl, rfl⟩ | ⟨a, cap, rfl, _⟩
  · exact ⟨none, 0, rfl⟩
  · exact ⟨some a, cap, rfl⟩
theorem DeedArg.len {w : World} {v : Value} {l : List Deed} (h : DeedArg w v l) : l.length ≤ maxLen := by
  rcases h with ⟨rfl, rfl⟩ | ⟨a, cap, rfl, h1, h2, h3⟩
  · simp
  · omega
theorem add_fldD (a : Addr) (n j : Nat) (hj : 0 < j) : a.add (n + j) = ⟨(a.add n).block, (a.add n).off + j, none⟩ := by
  rw [← Go.Deep.add_add]
  generalize a.add n = b
  unfold Addr.add
  rw [if_neg (by omega)]
theorem DeedArg.cells {w : World} {v : Value} {l : List Deed} (h : DeedArg w v l) {k : Nat} (hk : k < l.length) : ∃ a cap, v = .slice (some a) l.length cap ∧ l.length ≤ cap ∧ cap ≤ maxLen ∧
    w.cell? (a.add (k * 8)) = some (.int .i64 l[k].kind) ∧ w.cell? ⟨(a.add (k * 8)).block, (a.add (k * 8)).off + 1, none⟩ = some (.int .i64 l[k].inode) ∧ w.cell? ⟨(a.add (k * 8)).block, (a.add (k * 8)).off + 2, none⟩ = some (.int .i64 l[k].ver) ∧
    w.cell? ⟨(a.add (k * 8)).block, (a.add (k * 8)).off + 3, none⟩ = some (.int .i64 l[k].sp.seg) ∧ w.cell? ⟨(a.add (k * 8)).block, (a.add (k * 8)).off + 4, none⟩ = some (.int .i64 l[k].sp.frm) ∧ w.cell? ⟨(a.add (k * 8)).block, (a.add (k * 8)).off + 5, none⟩ = some (.int .i64 l[k].sp.len) ∧
    w.cell? ⟨(a.add (k * 8)).block, (a.add (k * 8)).off + 6, none⟩ = some (.int .i64 l[k].sp.ver) ∧ w.cell? ⟨(a.add (k * 8)).block, (a.add (k * 8)).off + 7, none⟩ = some (.bool l[k].now) := by
  rcases h with ⟨rfl, rfl⟩ | ⟨a, cap, rfl, h1, h2, h3⟩
  · simp at hk
  · have h := h3 k hk
    refine ⟨a, cap, rfl, h1, h2, by have := h 0 _ rfl; rwa [Nat.add_zero] at this, ?_, ?_, ?_, ?_, ?_, ?_, ?_⟩
    · have := h 1 _ rfl
      rwa [add_fldD _ _ _ (by decide)] at this
    · have := h 2 _ rfl
      rwa [add_fldD _ _ _ (by decide)] at this
    · have := h 3 _ rfl
      rwa [add_fldD _ _ _ (by decide)] at this
    · have := h 4 _ rfl
      rwa [add_fldD _ _ _ (by decide)] at this
    · have := h 5 _ rfl
      rwa [add_fldD _ _ _ (by decide)] at this
    · have := h 6 _ rfl
      rwa [add_fldD _ _ _ (by decide)] at this
    · have := h 7 _ rfl
      rwa [add_fldD _ _ _ (by decide)] at this
end Go.Proofs.Ytljmaicobafgkaa
end
section
/- Chapter 25, imap: the walk of ImapNone. -/
namespace Go.Proofs.Ytljmaicobafgkaa
open Go.RowKit

def Deed.arr (x : Deed) : Array Value := #[.int .i64 x.kind, .int .i64 x.inode, .int .i64 x.ver, .int .i64 x.sp.seg, .int .i64 x.sp.frm, .int .i64 x.sp.len, .int .i64 x.sp.ver, .bool x.now]
set_option maxHeartbeats 8000000 in
set_option maxRecDepth 1000000 in
theorem walk_imapNone (x : Deed) (w : World) (_hx : x.wf) :
    Calls Try.prog 6 #[.agg x.cells.toArray] w fun e w' => e = .returned (.bool true) ∧ Below w.heap.size w w' := by
  rw [show x.cells.toArray = #[.int .i64 x.kind, .int .i64 x.inode, .int .i64 x.ver, .int .i64 x.sp.seg, .int .i64 x.sp.frm, .int .i64 x.sp.len, .int .i64 x.sp.ver, .bool x.now] from rfl]
  have HX := hide (obj_new w (.cells #[.int .i64 x.kind, .int .i64 x.inode, .int .i64 x.ver, .int .i64 x.sp.seg, .int .i64 x.sp.frm, .int .i64 x.sp.len, .int .i64 x.sp.ver, .bool x.now] 32))
  have HB0 := hide ((Below.refl w.heap.size w).alloc (Nat.le_refl _) (.cells #[.int .i64 x.kind, .int .i64 x.inode, .int .i64 x.ver, .int .i64 x.sp.seg, .int .i64 x.sp.frm, .int .i64 x.sp.len, .int .i64 x.sp.ver, .bool x.now] 32))
  go_enter Try.func6, Try.ntmps6
  go_wp2_with fail
  refine (move_nil x.inode x.ver x.sp _).mono ?_
  rintro e w1 ⟨rfl, hb1⟩
  have HX1 := hide (obj_below HX.out hb1)
  have HB1 := hide (HB0.out.trans (hb1.mono HB0.out.size))
  have a1 := obj_cell HX1.out 1
  simp only [List.getElem?_toArray, List.getElem?_cons_zero, List.getElem?_cons_succ] at a1
  clear hb1
  go_wp2_with fail
  refine (get_nil x.inode _).mono ?_
  rintro e w2 ⟨rfl, hb2⟩
  have hbx := hb2.alloc hb2.size (.cells #[.int .i64 0, .int .i64 0, .int .i64 0, .int .i64 0] 27)
  have HX2 := hide (obj_below HX1.out hbx)
  have HY2 := hide (obj_new w2 (.cells #[.int .i64 0, .int .i64 0, .int .i64 0, .int .i64 0] 27))
  have HB2 := hide (HB1.out.trans (hbx.mono HB1.out.size))
  have b1 := obj_cell HX2.out 1
  have b2 := obj_cell HX2.out 2
  have c0 := obj_cell HY2.out 0
  have c1 := obj_cell HY2.out 1
  have c2 := obj_cell HY2.out 2
  have c3 := obj_cell HY2.out 3
  simp only [List.getElem?_toArray, List.getElem?_cons_zero, List.getElem?_cons_succ] at b1 b2 c0 c1 c2 c3
  clear hb2 hbx a1
  go_wp2_with fail
  refine (drop_nil x.inode x.ver _).mono ?_
  rintro e w3 ⟨rfl, rfl⟩
  go_wp2_with fail
  refine (all_nil _).mono ?_
  rintro e w3 ⟨v, rfl, hO, hb3⟩
  obtain ⟨A, c, rfl⟩ := row_slice hO
  have HX3 := hide (obj_below HX2.out hb3)
  have HB3 := hide (HB2.out.trans (hb3.mono HB2.out.size))
  have d1 := obj_cell HX3.out 1
  simp only [List.getElem?_toArray, List.getElem?_cons_zero, List.getElem?_cons_succ] at d1
  clear hO hb3 b1 b2 c0 c1 c2 c3
  go_wp2_with fail
  refine (live_nil x.inode _).mono ?_
  rintro e w4 ⟨rfl, hb4⟩
  have HB4 := hide (HB3.out.trans (hb4.mono HB3.out.size))
  clear hb4 d1
  go_wp2_with fail
  refine (free_nil _).mono ?_
  rintro e w5 ⟨rfl, rfl⟩
  go_wp2_with fail
  refine (mtext_nil _).mono ?_
  rintro e w5 ⟨rfl, rfl⟩
  go_wp2_with fail
  refine (awake25 _).mono ?_
  rintro e w6 ⟨rfl, hb6⟩
  go_wp2
  go_ret
  exact ⟨rfl, HB4.out.trans (hb6.mono HB4.out.size)⟩
end Go.Proofs.Ytljmaicobafgkaa
end
