/- slices.SortFunc of a row of structs, by an order; the order may read what was captured. -/
import Derived.Test.YthbhpojbdpgajaaGr
import Derived.Shelf.SlSortCmp.NoneTotal
namespace Go.Proofs.Ythbhpojbdpgajaa
open Go.RowKit Go.Shelf Go.Sort

section
variable {P : Program} {ρ : Ren} {α : Type} (K : EK P α)
theorem EK.flat_get [Inhabited α] (d : Array α) (t : Nat) (h : t < d.size * K.sz) : (K.vals d.toList)[t]? = some (flatK K.cs K.sz d)[t]! := by
  have h0 := K.pos
  have hq : t / K.sz < d.size := (Nat.div_lt_iff_lt_mul h0).2 h
  have hr : t % K.sz < K.sz := Nat.mod_lt _ h0
  have e := EK.vget (K := K) (l := d.toList) (k := t / K.sz) (j := t % K.sz) (by simpa using hq) hr
  rw [Nat.div_add_mod' t K.sz] at e
  rw [e, get_flatK _ _ _ _ h, getElem!_pos d (t / K.sz) hq, Array.getElem_toList]
  have hl : t % K.sz < (K.cs d[t / K.sz]).length := by rw [K.len]; exact hr
  rw [List.getElem?_eq_getElem hl, getElem!_pos (K.cs d[t / K.sz]) (t % K.sz) hl]
theorem permIn_list [Inhabited α] {d d' : Array α} (h : PermIn 0 d.size d d') : d'.toList.Perm d.toList := by
  obtain ⟨h1, -, h3⟩ := h
  have e1 : (d.extract 0 d.size).toList = d.toList := by simp
  have e2 : (d'.extract 0 d.size).toList = d'.toList := by rw [← h1]; simp
  rwa [e1, e2] at h3
/-- slices.SortFunc of a row: the same elements, by rising keys. -/
theorem EK.sortc (L : SlLaysF0.n6 P ρ) (aE : ∀ w, (isAgg (ρ.t 24)).run P w = .ok true w) (zE : ∀ w, (Go.sizeOf (ρ.t 24)).run P w = .ok K.sz w) (ok : α → Prop) (lo : α → α → Prop) (hlt1 : ∀ x, ¬ lo x x) (hlt2 : ∀ x y z, lo x y → lo y z → lo x z) (hlt3 : ∀ x y z, ¬ lo x y → ¬ lo y z → ¬ lo x z) (cf : α → α → Int)
    (hcf : ∀ x y, ok x → ok y → (cf x y < 0 ↔ lo x y)) (g : Nat) (cb : Array Value) (eg : ∀ args w, (callFunc g args).run P w = .ok (.enter g args) w)
    {w : World} {B : Nat} {v : Value} {l : List α} (hcl : ∀ x y, ok x → ok y → ∀ W : World, (∀ k, k < w.heap.size → v.ownBlock ≠ some k → W.heap[k]? = w.heap[k]?) → Calls P g (#[.agg (K.cs x).toArray, .agg (K.cs y).toArray] ++ cb) W fun e w' => e = .returned (.int .i64 (cf x y)) ∧ ∃ q os', w' = grow (W.drewN q) os')
    (h : K.row w B v l) (hl : ∀ x ∈ l, ok x) (hlen : l.length < 4611686018427387904) :
    Calls P (ρ.f 6) #[v, .func (.func g) #[] cb] w fun e w' => e = .returned (.tuple #[]) ∧ ∃ l', l'.Perm l ∧ l'.Pairwise (fun a b => ¬ lo b a) ∧ K.row w' B v l' ∧ Fr (fun j => v.ownBlock = some j) w w' := by
  rcases h.2 with ⟨rfl, h0⟩ | ⟨b, cap, cur, rfl, hb, hc, hn, hm, hs, ht⟩
  · have e : l = [] := List.length_eq_zero_iff.1 h0
    subst e
    refine (AnyF.slices_SortFunc_none { L with } none 0 _ w).mono ?_
    rintro e w' ⟨rfl, rfl⟩
    exact ⟨rfl, [], .refl _, .nil, h, Fr.refl _ _⟩
  · rcases l with _ | ⟨x0, lt⟩
    · refine (AnyF.slices_SortFunc_none { L with } _ cap _ w).mono ?_
      rintro e w' ⟨rfl, rfl⟩
      exact ⟨rfl, [], .refl _, .nil, h, Fr.refl _ _⟩
    · obtain ⟨l, hll⟩ : ∃ l, l = x0 :: lt := ⟨_, rfl⟩
      rw [← hll] at h hl hlen hn ht ⊢
      have hok0 : ok x0 := hl x0 (by rw [hll]; simp)
      let β := {x : α // ok x}
      letI : Inhabited β := ⟨⟨x0, hok0⟩⟩
      let Kb : EK P β := { cs := fun x => K.cs x.1, sz := K.sz, e := K.e, t := K.t, by_ := K.by_, len := fun a => K.len a.1, one := fun a => K.one a.1, pos := K.pos, und := K.und, inf := K.inf, small := K.small }
      let d : Array β := (l.attachWith ok hl).toArray
      have hd : d.toList.map (·.1) = l := by show (l.attachWith ok hl).map (·.1) = l; simp
      have hds : d.size = l.length := by show (l.attachWith ok hl).toArray.size = l.length; simp
      have hvals : ∀ m : List β, Kb.vals m = K.vals (m.map (·.1)) := fun m => by simp [EK.vals, List.flatMap_map, Kb]
      have hH : HoldsK Kb.cs K.sz w b 0 d := fun j hj => by
        rw [size_flatK] at hj
        refine ⟨?_, obj_frozen hc _⟩
        rw [Nat.zero_add, obj_cell hc, ← Array.getElem?_toList]
        have := EK.flat_get Kb d j hj
        rw [hvals, hd, ← ht, List.getElem?_take] at this
        rw [if_pos (by rw [← hds]; exact hj)] at this
        exact this
      have hSWO : SWO (ltOf fun x y : β => cf x.1 y.1) := by
        have hf : ∀ x y : β, ltOf (fun x y : β => cf x.1 y.1) x y = false ↔ ¬ lo x.1 y.1 := fun x y => by
          unfold ltOf
          rw [decide_eq_false_iff_not, hcf x.1 y.1 x.2 y.2]
        have ht : ∀ x y : β, ltOf (fun x y : β => cf x.1 y.1) x y = true ↔ lo x.1 y.1 := fun x y => by
          unfold ltOf
          rw [decide_eq_true_iff, hcf x.1 y.1 x.2 y.2]
        exact ⟨fun x => (hf x x).2 (hlt1 _), fun x y z h1 h2 => (ht x z).2 (hlt2 _ _ _ ((ht x y).1 h1) ((ht y z).1 h2)), fun x y z h1 h2 => (hf x z).2 (hlt3 _ _ _ ((hf x y).1 h1) ((hf y z).1 h2))⟩
      have hblkg : ∀ (n : Nat) (d' : Array β) (os : Array Obj) (k : Nat), k < w.heap.size → (sortWorldK Kb.cs K.sz w b 0 n d' os).heap[k]? = if b = k then some (.cells (putCells id 0 (flatK Kb.cs K.sz d') cur) K.e (0, 0)) else w.heap[k]? := fun n d' os k hk => by
        show ((w.heap.modify b (onCells _)) ++ os)[k]? = _
        rw [Array.getElem?_append_left (by simpa using hk), Array.getElem?_modify]
        split
        · rename_i e
          subst e
          rw [hc]
          rfl
        · rfl
      have hcmp : CmpLays P g cb Kb.cs K.sz (fun x y : β => cf x.1 y.1) b 0 d.size w := fun m os dk _ x y => hcl x.1 y.1 x.2 y.2 _ (fun k hk hne => by
        rw [hblkg m dk os k hk, if_neg (fun e => hne (by rw [e]; rfl))])
      have hmain := AnyQ.slices_SortFunc L K.sz aE zE Kb.cs (fun x => K.len x.1) (fun x u hu => K.one x.1 u hu) (fun x y : β => cf x.1 y.1) hSWO g cb b 0 cap d w eg hcmp hH (obj_lt hc) (by rw [hds]; exact hlen)
      rw [hds] at hmain
      refine hmain.mono ?_
      rintro e w' ⟨rfl, d', n, os, hp, hsrt, rfl⟩
      rw [← hds] at hp hsrt
      have hds' : d'.size = d.size := hp.1
      have hpl := permIn_list hp
      have hlen' : (d'.toList.map (·.1)).length = l.length := by rw [List.length_map, Array.length_toList, hds', hds]
      have hblk := hblkg n d' os
      have hg := hblk b (obj_lt hc)
      rw [if_pos rfl] at hg
      refine ⟨rfl, d'.toList.map (·.1), ?_, ?_, ⟨by rw [EK.vlen], .inr ⟨b, cap, _, by rw [hlen'], hb, hg, by rw [hlen']; exact hn, hm, ?_, ?_⟩⟩, rfl, rfl, rfl, ?_, fun k hk hk2 => ?_⟩
      · have := hpl.map (·.1)
        rwa [hd] at this
      · rw [List.pairwise_map, List.pairwise_iff_getElem]
        intro i j hi hj hij
        have hi' : i < d'.size := by simpa using hi
        have hj' : j < d'.size := by simpa using hj
        have h1 := hsrt i j (Nat.zero_le _) hij (by omega)
        rw [getElem!_pos d' i hi', getElem!_pos d' j hj'] at h1
        unfold ltOf at h1
        rw [decide_eq_false_iff_not, hcf d'[j].1 d'[i].1 d'[j].2 d'[i].2] at h1
        rw [Array.getElem_toList, Array.getElem_toList]
        exact h1
      · simpa [putCells] using hs
      · have hcs : l.length * K.sz ≤ cur.size := by rw [hs]; exact Nat.mul_le_mul_right _ hn
        rw [hlen', ← hvals]
        apply List.ext_getElem?
        intro j
        rw [List.getElem?_take]
        by_cases hj : j < l.length * K.sz
        · rw [if_pos hj, Array.getElem?_toList]
          have hjc : j < cur.size := by omega
          have hj2 : j < d'.size * K.sz := by rw [hds', hds]; exact hj
          rw [show (Kb.vals d'.toList)[j]? = some (flatK Kb.cs K.sz d')[j]! from EK.flat_get Kb d' j hj2]
          simp only [putCells, Array.getElem?_mapIdx, Array.getElem?_eq_getElem hjc, Option.map_some, Nat.zero_le, true_and, Nat.zero_add, Nat.sub_zero]
          rw [if_pos (by rw [size_flatK]; exact hj2)]
          rfl
        · rw [if_neg hj, List.getElem?_eq_none]
          rw [EK.vlen, Array.length_toList, hds', hds]
          show l.length * K.sz ≤ j
          omega
      · show w.heap.size ≤ ((w.heap.modify b (onCells _)) ++ os).size
        simp
      · rw [hblk k hk, if_neg (fun e => hk2 (by rw [e]; rfl))]
end
end Go.Proofs.Ythbhpojbdpgajaa
