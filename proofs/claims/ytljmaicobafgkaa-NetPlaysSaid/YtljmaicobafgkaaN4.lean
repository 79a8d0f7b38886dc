/- A join of 3 texts of this claim: Nt3, Nt4, Nt5. Conditions: none of their own. -/
import Derived.Test.YtljmaicobafgkaaN3
import Derived.WideKeyRuns
import Derived.MapKept
import Derived.DeepKeys3
import Derived.Laws.StructEq
section
/- Chapter 13, net: one is taken out. -/
namespace Go.Proofs.Ytljmaicobafgkaa
open Go.RowKit

theorem info214s : (Try.prog.info? 214).map (·.size) = some 3 := by kernel_rfl
theorem wv_get (l : List Pcl) {k j : Nat} (hk : k < l.length) (hj : j < 3) : (wayVals l)[k * 3 + j]? = (l[k].cells)[j]? := by
  have h : wayVals l = wayVals (l.take k) ++ (l[k].cells ++ wayVals (l.drop (k + 1))) := by
    have e : l = l.take k ++ (l[k] :: l.drop (k + 1)) := by rw [List.getElem_cons_drop, List.take_append_drop]
    have e2 : wayVals (l[k] :: l.drop (k + 1)) = l[k].cells ++ wayVals (l.drop (k + 1)) := by simp only [wayVals, List.flatMap_cons]
    rw [← e2, ← wv_app, ← e]
  rw [h, List.getElem?_append_right (by rw [wv_len, List.length_take]; omega), wv_len, List.length_take, Nat.min_eq_left (by omega), List.getElem?_append_left (by simp [Pcl.cells]; omega)]
  congr 1
  omega
theorem row_cells {w : World} {r cap : Nat} {l : List Pcl} (h : w.ownsRow 0 214 3 (.slice (some ⟨r, 0, none⟩) l.length cap) l.length (wayVals l)) {k : Nat} (hk : k < l.length) :
    w.cell? ⟨r, k * 3, none⟩ = some (.int .i64 l[k].a) ∧ w.cell? ⟨r, k * 3 + 1, none⟩ = some (.int .i64 l[k].b) ∧ w.cell? ⟨r, k * 3 + 2, none⟩ = some (.string ⟨l[k].s.toArray⟩) := by
  rcases h.2 with ⟨e, _⟩ | ⟨g', cap', cur, e, -, hc, hn, hm, hs, ht⟩
  · cases e
  cases e
  have key : ∀ j, j < 3 → w.cell? ⟨r, k * 3 + j, none⟩ = (l[k].cells)[j]? := fun j hj => by
    rw [obj_cell hc, ← wv_get l hk hj, ← ht, List.getElem?_take, if_pos (by omega), Array.getElem?_toList]
  exact ⟨key 0 (by decide), key 1 (by decide), key 2 (by decide)⟩
theorem row_cap {w : World} {r n cap : Nat} {xs : List Value} (h : w.ownsRow 0 214 3 (.slice (some ⟨r, 0, none⟩) n cap) n xs) : n ≤ cap ∧ cap ≤ maxLen := by
  rcases h.2 with ⟨e, _⟩ | ⟨g', cap', cur, e, -, hc, hn, hm, hs, ht⟩
  · cases e
  cases e
  exact ⟨hn, hm⟩
theorem NT.some {w : World} {g c : Nat} {v : Value} {N : NetS} (h : NT w g v c N) (h0 : 0 < N.way.length) : ∃ r cap, v = .slice (some ⟨r, 0, none⟩) N.way.length cap := by
  rcases h.2.1.2 with ⟨rfl, h1⟩ | ⟨g', cap, cur, rfl, h2, h3, h4⟩
  · omega
  · exact ⟨_, _, rfl⟩
theorem row_draw {w : World} {B : Nat} {e : TypeId} {size : Nat} {v : Value} {n : Nat} {xs : List Value} (h : w.ownsRow B e size v n xs) : w.drew.ownsRow B e size v n xs := h
def outA (k bn bp : Nat) (u x : Nat → Value) : Act := ⟨#[.int .i64 (k : Int), .pointer (some ⟨bn, 0, none⟩), .pointer (some ⟨bp, 0, none⟩), u 3, u 4, u 5, u 6, u 7, u 8, u 9, u 10, x 0, x 1, x 2, x 3, x 4, x 5, x 6, x 7, x 8, x 9, x 10], []⟩
def OutS (w0 : World) (g c bn bp r cap : Nat) (nn : Int) (l : List Pcl) (L : Int × Int → Bool) (k : Nat) (pc : Array Value) (d : Nat → Bool) (w : World) : Prop :=
  w.heap[bn]? = some (.cells #[.pointer (some ⟨g, 0, none⟩)] 107 (0, 0)) ∧ w.heap[bp]? = some (.cells pc 214 (0, 0)) ∧ CM w c L ∧ Fr (fun j => j = bp ∨ j = g ∨ j = r) w0 w ∧ (d 11 = true → d 4 = true) ∧
    w.heap[g]? = some (.cells #[.int .i64 nn, if d 11 = true then .slice (some ⟨r, 0, none⟩) (l.length - 1) cap else .slice (some ⟨r, 0, none⟩) l.length cap, .map (some c)] 209 (0, 0)) ∧
    (if d 8 = true then w.ownsRow 0 214 3 (.slice (some ⟨r, 0, none⟩) (l.length - 1) cap) (l.eraseIdx k).length (wayVals (l.eraseIdx k)) else w.ownsRow 0 214 3 (.slice (some ⟨r, 0, none⟩) l.length cap) l.length (wayVals l))
theorem OutS.on {w0 w : World} {g c bn bp r cap : Nat} {nn : Int} {l : List Pcl} {L : Int × Int → Bool} {k : Nat} {pc : Array Value} {d : Nat → Bool} (h : OutS w0 g c bn bp r cap nn l L k pc d w) {i : Nat} (h8 : 8 ≠ i) (h11 : 11 ≠ i) : OutS w0 g c bn bp r cap nn l L k pc (fun j => if j = i then true else d j) w := by
  unfold OutS at h ⊢
  simp only [if_neg h8, if_neg h11]
  refine ⟨h.1, h.2.1, h.2.2.1, h.2.2.2.1, fun e => ?_, h.2.2.2.2.2⟩
  split
  · rfl
  · exact h.2.2.2.2.1 e
def outV (g r cap n k : Nat) (i : Nat) (v : Value) (_w : World) : Prop :=
  match i with
  | 3 => v = .pointer (some ⟨g, 1, none⟩)
  | 4 => v = .slice (some ⟨r, 0, none⟩) n cap
  | 5 => v = .int .i64 (k : Int)
  | 6 => v = .int .i64 (k : Int)
  | 7 => v = .int .i64 ((k : Int) + 1)
  | 8 => v = .slice (some ⟨r, 0, none⟩) (n - 1) cap
  | 10 => v = .pointer (some ⟨g, 1, none⟩)
  | 11 => True
  | _ => v = .pointer (some ⟨g, 0, none⟩)
set_option maxHeartbeats 4000000 in
set_option maxRecDepth 100000 in
theorem out1_any {w : World} {g c bn bp r cap : Nat} {N : NetS} {z : Array Value} (h : NT w g (.slice (some ⟨r, 0, none⟩) N.way.length cap) c N) (hbn : w.heap[bn]? = some (.cells #[.pointer (some ⟨g, 0, none⟩)] 107 (0, 0))) (hbp : w.heap[bp]? = some (.cells z 214 (0, 0))) (hz : z.size = 3) (hrp : r ≠ bp) {k : Nat} (hk : k < N.way.length) :
    Calls Try.prog 174 #[.int .i64 (k : Int), .pointer (some ⟨bn, 0, none⟩), .pointer (some ⟨bp, 0, none⟩)] w fun e w' => e = .returned (.tuple #[]) ∧
      NT w' g (.slice (some ⟨r, 0, none⟩) (N.way.length - 1) cap) c ⟨N.n, N.way.eraseIdx k, N.cuts⟩ ∧ w'.heap[bp]? = some (.cells N.way[k].cells.toArray 214 (0, 0)) ∧ Fr (fun j => j = bp ∨ j = g ∨ j = r) w w' := by
  obtain ⟨nn, l, L⟩ := N
  simp only at h hk ⊢
  have hgp : g ≠ bp := by
    rintro rfl
    rw [h.1] at hbp
    cases hbp
  have hgn : bn ≠ g := by
    rintro rfl
    rw [h.1] at hbn
    cases hbn
  have hnp : bn ≠ bp := by
    rintro rfl
    rw [hbn] at hbp
    cases hbp
  have hcp : c ≠ bp := by
    rintro rfl
    obtain ⟨es, ck, hc, _⟩ := h.2.2
    rw [hc] at hbp
    cases hbp
  have hrg : r ≠ g := fun e => h.row_ne (by rw [e]; rfl)
  have hrc : r ≠ c := fun e => h.row_ne_map (by rw [e]; rfl)
  have hcg : c ≠ g := fun e => h.map_ne e.symm
  have hrn : r ≠ bn := by
    rintro rfl
    rcases h.2.1.2 with ⟨e, _⟩ | ⟨g', cap', cur, e, -, hc, -⟩
    · cases e
    · cases e
      rw [hbn] at hc
      cases hc
  obtain ⟨hca, hcm⟩ := row_cap h.2.1
  simp only [maxLen] at hcm
  obtain ⟨p0, p1, p2⟩ := row_cells h.2.1 hk
  have hrow := h.2.1
  have hone : (l[k].cells.toArray).all (·.oneCell') = true := by simp [Pcl.cells, Value.oneCell']
  have hsr := store_whole (P := Try.prog) (ty := 214) hbp (cells := l[k].cells.toArray) (by rw [show (l[k].cells.toArray).size = 3 from rfl]; exact info214s) (by rw [hz]; rfl) hone
  have z0 := obj_cell hbn 0
  have g1 := obj_cell h.1 1
  simp only [List.getElem?_toArray, List.getElem?_cons_zero, List.getElem?_cons_succ] at z0 g1
  obtain ⟨W, hW⟩ : ∃ W, W = w.setRow bp l[k].cells.toArray := ⟨_, rfl⟩
  rw [← hW] at hsr
  have hF : Fr (fun j => j = bp) w W := hW ▸ setRow_fr' w bp _
  have hBP : Hid (W.heap[bp]? = some (.cells l[k].cells.toArray 214 (0, 0))) := hide (by rw [hW]; exact setRow_at' hbp)
  have hBN := hide (hF.obj hbn hnp)
  have hNT := hide (NT.fr h hF hgp hcp (fun j e => by cases e; exact hrp))
  have HF := hide hF
  have HSR := hide hsr
  clear hW hsr hF h hbp hbn hone
  go_enter Try.func174, Try.ntmps174
  go_wp2_with (refine wpList_storev' rfl 214 (.tmp 2) (.tmp 10) rfl rfl rfl HSR.out ?_)
  clear p0 p1 p2 z0 g1
  refine wp_region_dF (outA k bn bp) (fun j => 11 + j) (fun d _ w' => OutS w g c bn bp r cap nn l L k l[k].cells.toArray d w') (fun i v w' => outV g r cap l.length k i v w') (by kernel_rfl) (by kernel_rfl) rfl ⟨hBN.out, hBP.out, hNT.out.2.2, (HF.out.mono (fun j _ e => .inl e)).drew, (fun e => by cases e), by rw [if_neg (by decide)]; exact hNT.out.1, by rw [if_neg (by decide)]; exact row_draw hNT.out.2.1⟩ ?_ ?_ ?_
  · exact fun u => ⟨fun x v => rfl, fun x v => rfl, fun x v => rfl, fun x v => rfl, fun x v => rfl, fun x v => rfl, fun x v => rfl, fun x v => rfl, fun x v => rfl, fun x v => rfl, fun x v => rfl, fun x v => rfl, trivial⟩
  · refine fun u => ⟨?_, ?_, ?_, ?_, ?_, ?_, ?_, ?_, ?_, ?_, ?_, ?_, trivial⟩
    · intro d x w' hS hdi hd hdd K hK
      refine ⟨rfl, ?_⟩
      unfold outA at hK ⊢
      have z := obj_cell hS.1 0
      simp only [List.getElem?_toArray, List.getElem?_cons_zero] at z
      go_wp2
      exact hK (.pointer (some ⟨g, 0, none⟩)) w' (hS.on (i := 0) (by decide) (by decide)) rfl (fun _ _ _ h => h)
    · intro d x w' hS hdi hd hdd K hK
      refine ⟨rfl, ?_⟩
      unfold outA at hK ⊢
      have z := obj_cell hS.1 0
      simp only [List.getElem?_toArray, List.getElem?_cons_zero] at z
      go_wp2
      exact hK (.pointer (some ⟨g, 0, none⟩)) w' (hS.on (i := 1) (by decide) (by decide)) rfl (fun _ _ _ h => h)
    · intro d x w' hS hdi hd hdd K hK
      have d0 : x 1 = .pointer (some ⟨g, 0, none⟩) := by first | exact hd _ List.mem_cons_self | exact hd _ (List.mem_cons_of_mem _ List.mem_cons_self) | exact hd _ (List.mem_cons_of_mem _ (List.mem_cons_of_mem _ List.mem_cons_self)) | exact hd _ (List.mem_cons_of_mem _ (List.mem_cons_of_mem _ (List.mem_cons_of_mem _ List.mem_cons_self))) | exact hd _ (List.mem_cons_of_mem _ (List.mem_cons_of_mem _ (List.mem_cons_of_mem _ (List.mem_cons_of_mem _ List.mem_cons_self)))) | exact hd _ (List.mem_cons_of_mem _ (List.mem_cons_of_mem _ (List.mem_cons_of_mem _ (List.mem_cons_of_mem _ (List.mem_cons_of_mem _ List.mem_cons_self))))) | exact hd _ (List.mem_cons_of_mem _ (List.mem_cons_of_mem _ (List.mem_cons_of_mem _ (List.mem_cons_of_mem _ (List.mem_cons_of_mem _ (List.mem_cons_of_mem _ List.mem_cons_self)))))) | exact hd _ (List.mem_cons_of_mem _ (List.mem_cons_of_mem _ (List.mem_cons_of_mem _ (List.mem_cons_of_mem _ (List.mem_cons_of_mem _ (List.mem_cons_of_mem _ (List.mem_cons_of_mem _ List.mem_cons_self)))))))
      refine ⟨rfl, ?_⟩
      unfold outA at hK ⊢
      simp only [d0] at hK ⊢
      have z := obj_cell hS.2.2.2.2.2.1 0
      go_wp2
      exact hK (.pointer (some ⟨g, 0, none⟩)) w' (hS.on (i := 2) (by decide) (by decide)) rfl (fun _ _ _ h => h)
    · intro d x w' hS hdi hd hdd K hK
      have d0 : x 2 = .pointer (some ⟨g, 0, none⟩) := by first | exact hd _ List.mem_cons_self | exact hd _ (List.mem_cons_of_mem _ List.mem_cons_self) | exact hd _ (List.mem_cons_of_mem _ (List.mem_cons_of_mem _ List.mem_cons_self)) | exact hd _ (List.mem_cons_of_mem _ (List.mem_cons_of_mem _ (List.mem_cons_of_mem _ List.mem_cons_self))) | exact hd _ (List.mem_cons_of_mem _ (List.mem_cons_of_mem _ (List.mem_cons_of_mem _ (List.mem_cons_of_mem _ List.mem_cons_self)))) | exact hd _ (List.mem_cons_of_mem _ (List.mem_cons_of_mem _ (List.mem_cons_of_mem _ (List.mem_cons_of_mem _ (List.mem_cons_of_mem _ List.mem_cons_self))))) | exact hd _ (List.mem_cons_of_mem _ (List.mem_cons_of_mem _ (List.mem_cons_of_mem _ (List.mem_cons_of_mem _ (List.mem_cons_of_mem _ (List.mem_cons_of_mem _ List.mem_cons_self)))))) | exact hd _ (List.mem_cons_of_mem _ (List.mem_cons_of_mem _ (List.mem_cons_of_mem _ (List.mem_cons_of_mem _ (List.mem_cons_of_mem _ (List.mem_cons_of_mem _ (List.mem_cons_of_mem _ List.mem_cons_self)))))))
      refine ⟨rfl, ?_⟩
      unfold outA at hK ⊢
      simp only [d0] at hK ⊢
      go_wp2
      exact hK (.pointer (some ⟨g, 1, none⟩)) w' (hS.on (i := 3) (by decide) (by decide)) rfl (fun _ _ _ h => h)
    · intro d x w' hS hdi hd hdd K hK
      have d0 : x 3 = .pointer (some ⟨g, 1, none⟩) := by first | exact hd _ List.mem_cons_self | exact hd _ (List.mem_cons_of_mem _ List.mem_cons_self) | exact hd _ (List.mem_cons_of_mem _ (List.mem_cons_of_mem _ List.mem_cons_self)) | exact hd _ (List.mem_cons_of_mem _ (List.mem_cons_of_mem _ (List.mem_cons_of_mem _ List.mem_cons_self))) | exact hd _ (List.mem_cons_of_mem _ (List.mem_cons_of_mem _ (List.mem_cons_of_mem _ (List.mem_cons_of_mem _ List.mem_cons_self)))) | exact hd _ (List.mem_cons_of_mem _ (List.mem_cons_of_mem _ (List.mem_cons_of_mem _ (List.mem_cons_of_mem _ (List.mem_cons_of_mem _ List.mem_cons_self))))) | exact hd _ (List.mem_cons_of_mem _ (List.mem_cons_of_mem _ (List.mem_cons_of_mem _ (List.mem_cons_of_mem _ (List.mem_cons_of_mem _ (List.mem_cons_of_mem _ List.mem_cons_self)))))) | exact hd _ (List.mem_cons_of_mem _ (List.mem_cons_of_mem _ (List.mem_cons_of_mem _ (List.mem_cons_of_mem _ (List.mem_cons_of_mem _ (List.mem_cons_of_mem _ (List.mem_cons_of_mem _ List.mem_cons_self)))))))
      have h11 : ¬ d 11 = true := fun e => by have := hS.2.2.2.2.1 e; rw [hdi] at this; cases this
      have z := obj_cell hS.2.2.2.2.2.1 1
      rw [if_neg h11] at z
      simp only [List.getElem?_toArray, List.getElem?_cons_zero, List.getElem?_cons_succ] at z
      refine ⟨rfl, ?_⟩
      unfold outA at hK ⊢
      simp only [d0] at hK ⊢
      go_wp2
      exact hK (.slice (some ⟨r, 0, none⟩) l.length cap) w' (hS.on (i := 4) (by decide) (by decide)) rfl (fun _ _ _ h => h)
    · intro d x w' hS hdi hd hdd K hK
      refine ⟨rfl, ?_⟩
      unfold outA at hK ⊢
      go_wp2
      exact hK (.int .i64 (k : Int)) w' (hS.on (i := 5) (by decide) (by decide)) rfl (fun _ _ _ h => h)
    · intro d x w' hS hdi hd hdd K hK
      refine ⟨rfl, ?_⟩
      unfold outA at hK ⊢
      go_wp2
      exact hK (.int .i64 (k : Int)) w' (hS.on (i := 6) (by decide) (by decide)) rfl (fun _ _ _ h => h)
    · intro d x w' hS hdi hd hdd K hK
      have d0 : x 6 = .int .i64 (k : Int) := by first | exact hd _ List.mem_cons_self | exact hd _ (List.mem_cons_of_mem _ List.mem_cons_self) | exact hd _ (List.mem_cons_of_mem _ (List.mem_cons_of_mem _ List.mem_cons_self)) | exact hd _ (List.mem_cons_of_mem _ (List.mem_cons_of_mem _ (List.mem_cons_of_mem _ List.mem_cons_self))) | exact hd _ (List.mem_cons_of_mem _ (List.mem_cons_of_mem _ (List.mem_cons_of_mem _ (List.mem_cons_of_mem _ List.mem_cons_self)))) | exact hd _ (List.mem_cons_of_mem _ (List.mem_cons_of_mem _ (List.mem_cons_of_mem _ (List.mem_cons_of_mem _ (List.mem_cons_of_mem _ List.mem_cons_self))))) | exact hd _ (List.mem_cons_of_mem _ (List.mem_cons_of_mem _ (List.mem_cons_of_mem _ (List.mem_cons_of_mem _ (List.mem_cons_of_mem _ (List.mem_cons_of_mem _ List.mem_cons_self)))))) | exact hd _ (List.mem_cons_of_mem _ (List.mem_cons_of_mem _ (List.mem_cons_of_mem _ (List.mem_cons_of_mem _ (List.mem_cons_of_mem _ (List.mem_cons_of_mem _ (List.mem_cons_of_mem _ List.mem_cons_self)))))))
      refine ⟨rfl, ?_⟩
      unfold outA at hK ⊢
      simp only [d0] at hK ⊢
      go_wp2
      exact hK (.int .i64 ((k : Int) + 1)) w' (hS.on (i := 7) (by decide) (by decide)) rfl (fun _ _ _ h => h)
    · intro d x w' hS hdi hd hdd K hK
      have d0 : x 4 = .slice (some ⟨r, 0, none⟩) l.length cap := by first | exact hd _ List.mem_cons_self | exact hd _ (List.mem_cons_of_mem _ List.mem_cons_self) | exact hd _ (List.mem_cons_of_mem _ (List.mem_cons_of_mem _ List.mem_cons_self)) | exact hd _ (List.mem_cons_of_mem _ (List.mem_cons_of_mem _ (List.mem_cons_of_mem _ List.mem_cons_self))) | exact hd _ (List.mem_cons_of_mem _ (List.mem_cons_of_mem _ (List.mem_cons_of_mem _ (List.mem_cons_of_mem _ List.mem_cons_self)))) | exact hd _ (List.mem_cons_of_mem _ (List.mem_cons_of_mem _ (List.mem_cons_of_mem _ (List.mem_cons_of_mem _ (List.mem_cons_of_mem _ List.mem_cons_self))))) | exact hd _ (List.mem_cons_of_mem _ (List.mem_cons_of_mem _ (List.mem_cons_of_mem _ (List.mem_cons_of_mem _ (List.mem_cons_of_mem _ (List.mem_cons_of_mem _ List.mem_cons_self)))))) | exact hd _ (List.mem_cons_of_mem _ (List.mem_cons_of_mem _ (List.mem_cons_of_mem _ (List.mem_cons_of_mem _ (List.mem_cons_of_mem _ (List.mem_cons_of_mem _ (List.mem_cons_of_mem _ List.mem_cons_self)))))))
      have d1 : x 5 = .int .i64 (k : Int) := by first | exact hd _ List.mem_cons_self | exact hd _ (List.mem_cons_of_mem _ List.mem_cons_self) | exact hd _ (List.mem_cons_of_mem _ (List.mem_cons_of_mem _ List.mem_cons_self)) | exact hd _ (List.mem_cons_of_mem _ (List.mem_cons_of_mem _ (List.mem_cons_of_mem _ List.mem_cons_self))) | exact hd _ (List.mem_cons_of_mem _ (List.mem_cons_of_mem _ (List.mem_cons_of_mem _ (List.mem_cons_of_mem _ List.mem_cons_self)))) | exact hd _ (List.mem_cons_of_mem _ (List.mem_cons_of_mem _ (List.mem_cons_of_mem _ (List.mem_cons_of_mem _ (List.mem_cons_of_mem _ List.mem_cons_self))))) | exact hd _ (List.mem_cons_of_mem _ (List.mem_cons_of_mem _ (List.mem_cons_of_mem _ (List.mem_cons_of_mem _ (List.mem_cons_of_mem _ (List.mem_cons_of_mem _ List.mem_cons_self)))))) | exact hd _ (List.mem_cons_of_mem _ (List.mem_cons_of_mem _ (List.mem_cons_of_mem _ (List.mem_cons_of_mem _ (List.mem_cons_of_mem _ (List.mem_cons_of_mem _ (List.mem_cons_of_mem _ List.mem_cons_self)))))))
      have d2 : x 7 = .int .i64 ((k : Int) + 1) := by first | exact hd _ List.mem_cons_self | exact hd _ (List.mem_cons_of_mem _ List.mem_cons_self) | exact hd _ (List.mem_cons_of_mem _ (List.mem_cons_of_mem _ List.mem_cons_self)) | exact hd _ (List.mem_cons_of_mem _ (List.mem_cons_of_mem _ (List.mem_cons_of_mem _ List.mem_cons_self))) | exact hd _ (List.mem_cons_of_mem _ (List.mem_cons_of_mem _ (List.mem_cons_of_mem _ (List.mem_cons_of_mem _ List.mem_cons_self)))) | exact hd _ (List.mem_cons_of_mem _ (List.mem_cons_of_mem _ (List.mem_cons_of_mem _ (List.mem_cons_of_mem _ (List.mem_cons_of_mem _ List.mem_cons_self))))) | exact hd _ (List.mem_cons_of_mem _ (List.mem_cons_of_mem _ (List.mem_cons_of_mem _ (List.mem_cons_of_mem _ (List.mem_cons_of_mem _ (List.mem_cons_of_mem _ List.mem_cons_self)))))) | exact hd _ (List.mem_cons_of_mem _ (List.mem_cons_of_mem _ (List.mem_cons_of_mem _ (List.mem_cons_of_mem _ (List.mem_cons_of_mem _ (List.mem_cons_of_mem _ (List.mem_cons_of_mem _ List.mem_cons_self)))))))
      have h8 : ¬ d 8 = true := by rw [hdi]; decide
      have hrw := hS.2.2.2.2.2.2
      rw [if_neg h8] at hrw
      refine ⟨rfl, ?_⟩
      unfold outA at hK ⊢
      simp only [d0, d1, d2] at hK ⊢
      go_wp2_with fail
      refine (delete_any hrw k hk).mono ?_
      rintro e w2 ⟨rfl, hrow2, hfr2⟩
      exact hK (.slice (some ⟨r, 0, none⟩) (l.length - 1) cap) w2 ⟨hfr2.obj hS.1 (Ne.symm hrn), hfr2.obj hS.2.1 (Ne.symm hrp), hS.2.2.1.fr hfr2 (Ne.symm hrc), hS.2.2.2.1.trans hfr2 (fun i _ e => .inr (.inr e)), hS.2.2.2.2.1, hfr2.obj hS.2.2.2.2.2.1 (Ne.symm hrg), by rw [if_pos (by simp)]; exact hrow2⟩ rfl (fun _ _ _ h => h)
    · intro d x w' hS hdi hd hdd K hK
      have d0 : x 0 = .pointer (some ⟨g, 0, none⟩) := by first | exact hd _ List.mem_cons_self | exact hd _ (List.mem_cons_of_mem _ List.mem_cons_self) | exact hd _ (List.mem_cons_of_mem _ (List.mem_cons_of_mem _ List.mem_cons_self)) | exact hd _ (List.mem_cons_of_mem _ (List.mem_cons_of_mem _ (List.mem_cons_of_mem _ List.mem_cons_self))) | exact hd _ (List.mem_cons_of_mem _ (List.mem_cons_of_mem _ (List.mem_cons_of_mem _ (List.mem_cons_of_mem _ List.mem_cons_self)))) | exact hd _ (List.mem_cons_of_mem _ (List.mem_cons_of_mem _ (List.mem_cons_of_mem _ (List.mem_cons_of_mem _ (List.mem_cons_of_mem _ List.mem_cons_self))))) | exact hd _ (List.mem_cons_of_mem _ (List.mem_cons_of_mem _ (List.mem_cons_of_mem _ (List.mem_cons_of_mem _ (List.mem_cons_of_mem _ (List.mem_cons_of_mem _ List.mem_cons_self)))))) | exact hd _ (List.mem_cons_of_mem _ (List.mem_cons_of_mem _ (List.mem_cons_of_mem _ (List.mem_cons_of_mem _ (List.mem_cons_of_mem _ (List.mem_cons_of_mem _ (List.mem_cons_of_mem _ List.mem_cons_self)))))))
      refine ⟨rfl, ?_⟩
      unfold outA at hK ⊢
      simp only [d0] at hK ⊢
      have z := obj_cell hS.2.2.2.2.2.1 0
      go_wp2
      exact hK (.pointer (some ⟨g, 0, none⟩)) w' (hS.on (i := 9) (by decide) (by decide)) rfl (fun _ _ _ h => h)
    · intro d x w' hS hdi hd hdd K hK
      have d0 : x 9 = .pointer (some ⟨g, 0, none⟩) := by first | exact hd _ List.mem_cons_self | exact hd _ (List.mem_cons_of_mem _ List.mem_cons_self) | exact hd _ (List.mem_cons_of_mem _ (List.mem_cons_of_mem _ List.mem_cons_self)) | exact hd _ (List.mem_cons_of_mem _ (List.mem_cons_of_mem _ (List.mem_cons_of_mem _ List.mem_cons_self))) | exact hd _ (List.mem_cons_of_mem _ (List.mem_cons_of_mem _ (List.mem_cons_of_mem _ (List.mem_cons_of_mem _ List.mem_cons_self)))) | exact hd _ (List.mem_cons_of_mem _ (List.mem_cons_of_mem _ (List.mem_cons_of_mem _ (List.mem_cons_of_mem _ (List.mem_cons_of_mem _ List.mem_cons_self))))) | exact hd _ (List.mem_cons_of_mem _ (List.mem_cons_of_mem _ (List.mem_cons_of_mem _ (List.mem_cons_of_mem _ (List.mem_cons_of_mem _ (List.mem_cons_of_mem _ List.mem_cons_self)))))) | exact hd _ (List.mem_cons_of_mem _ (List.mem_cons_of_mem _ (List.mem_cons_of_mem _ (List.mem_cons_of_mem _ (List.mem_cons_of_mem _ (List.mem_cons_of_mem _ (List.mem_cons_of_mem _ List.mem_cons_self)))))))
      refine ⟨rfl, ?_⟩
      unfold outA at hK ⊢
      simp only [d0] at hK ⊢
      go_wp2
      exact hK (.pointer (some ⟨g, 1, none⟩)) w' (hS.on (i := 10) (by decide) (by decide)) rfl (fun _ _ _ h => h)
    · intro d x w' hS hdi hd hdd K hK
      have d0 : x 10 = .pointer (some ⟨g, 1, none⟩) := by first | exact hd _ List.mem_cons_self | exact hd _ (List.mem_cons_of_mem _ List.mem_cons_self) | exact hd _ (List.mem_cons_of_mem _ (List.mem_cons_of_mem _ List.mem_cons_self)) | exact hd _ (List.mem_cons_of_mem _ (List.mem_cons_of_mem _ (List.mem_cons_of_mem _ List.mem_cons_self))) | exact hd _ (List.mem_cons_of_mem _ (List.mem_cons_of_mem _ (List.mem_cons_of_mem _ (List.mem_cons_of_mem _ List.mem_cons_self)))) | exact hd _ (List.mem_cons_of_mem _ (List.mem_cons_of_mem _ (List.mem_cons_of_mem _ (List.mem_cons_of_mem _ (List.mem_cons_of_mem _ List.mem_cons_self))))) | exact hd _ (List.mem_cons_of_mem _ (List.mem_cons_of_mem _ (List.mem_cons_of_mem _ (List.mem_cons_of_mem _ (List.mem_cons_of_mem _ (List.mem_cons_of_mem _ List.mem_cons_self)))))) | exact hd _ (List.mem_cons_of_mem _ (List.mem_cons_of_mem _ (List.mem_cons_of_mem _ (List.mem_cons_of_mem _ (List.mem_cons_of_mem _ (List.mem_cons_of_mem _ (List.mem_cons_of_mem _ List.mem_cons_self)))))))
      have d1 : x 8 = .slice (some ⟨r, 0, none⟩) (l.length - 1) cap := by first | exact hd _ List.mem_cons_self | exact hd _ (List.mem_cons_of_mem _ List.mem_cons_self) | exact hd _ (List.mem_cons_of_mem _ (List.mem_cons_of_mem _ List.mem_cons_self)) | exact hd _ (List.mem_cons_of_mem _ (List.mem_cons_of_mem _ (List.mem_cons_of_mem _ List.mem_cons_self))) | exact hd _ (List.mem_cons_of_mem _ (List.mem_cons_of_mem _ (List.mem_cons_of_mem _ (List.mem_cons_of_mem _ List.mem_cons_self)))) | exact hd _ (List.mem_cons_of_mem _ (List.mem_cons_of_mem _ (List.mem_cons_of_mem _ (List.mem_cons_of_mem _ (List.mem_cons_of_mem _ List.mem_cons_self))))) | exact hd _ (List.mem_cons_of_mem _ (List.mem_cons_of_mem _ (List.mem_cons_of_mem _ (List.mem_cons_of_mem _ (List.mem_cons_of_mem _ (List.mem_cons_of_mem _ List.mem_cons_self)))))) | exact hd _ (List.mem_cons_of_mem _ (List.mem_cons_of_mem _ (List.mem_cons_of_mem _ (List.mem_cons_of_mem _ (List.mem_cons_of_mem _ (List.mem_cons_of_mem _ (List.mem_cons_of_mem _ List.mem_cons_self)))))))
      have e4 : d 4 = true := by first | exact hdd _ List.mem_cons_self | exact hdd _ (List.mem_cons_of_mem _ List.mem_cons_self) | exact hdd _ (List.mem_cons_of_mem _ (List.mem_cons_of_mem _ List.mem_cons_self)) | exact hdd _ (List.mem_cons_of_mem _ (List.mem_cons_of_mem _ (List.mem_cons_of_mem _ List.mem_cons_self))) | exact hdd _ (List.mem_cons_of_mem _ (List.mem_cons_of_mem _ (List.mem_cons_of_mem _ (List.mem_cons_of_mem _ List.mem_cons_self)))) | exact hdd _ (List.mem_cons_of_mem _ (List.mem_cons_of_mem _ (List.mem_cons_of_mem _ (List.mem_cons_of_mem _ (List.mem_cons_of_mem _ List.mem_cons_self))))) | exact hdd _ (List.mem_cons_of_mem _ (List.mem_cons_of_mem _ (List.mem_cons_of_mem _ (List.mem_cons_of_mem _ (List.mem_cons_of_mem _ (List.mem_cons_of_mem _ List.mem_cons_self)))))) | exact hdd _ (List.mem_cons_of_mem _ (List.mem_cons_of_mem _ (List.mem_cons_of_mem _ (List.mem_cons_of_mem _ (List.mem_cons_of_mem _ (List.mem_cons_of_mem _ (List.mem_cons_of_mem _ List.mem_cons_self))))))) | exact hdd _ (List.mem_cons_of_mem _ (List.mem_cons_of_mem _ (List.mem_cons_of_mem _ (List.mem_cons_of_mem _ (List.mem_cons_of_mem _ (List.mem_cons_of_mem _ (List.mem_cons_of_mem _ (List.mem_cons_of_mem _ List.mem_cons_self)))))))) | exact hdd _ (List.mem_cons_of_mem _ (List.mem_cons_of_mem _ (List.mem_cons_of_mem _ (List.mem_cons_of_mem _ (List.mem_cons_of_mem _ (List.mem_cons_of_mem _ (List.mem_cons_of_mem _ (List.mem_cons_of_mem _ (List.mem_cons_of_mem _ List.mem_cons_self))))))))) | exact hdd _ (List.mem_cons_of_mem _ (List.mem_cons_of_mem _ (List.mem_cons_of_mem _ (List.mem_cons_of_mem _ (List.mem_cons_of_mem _ (List.mem_cons_of_mem _ (List.mem_cons_of_mem _ (List.mem_cons_of_mem _ (List.mem_cons_of_mem _ (List.mem_cons_of_mem _ List.mem_cons_self)))))))))) | exact hdd _ (List.mem_cons_of_mem _ (List.mem_cons_of_mem _ (List.mem_cons_of_mem _ (List.mem_cons_of_mem _ (List.mem_cons_of_mem _ (List.mem_cons_of_mem _ (List.mem_cons_of_mem _ (List.mem_cons_of_mem _ (List.mem_cons_of_mem _ (List.mem_cons_of_mem _ (List.mem_cons_of_mem _ List.mem_cons_self)))))))))))
      have e8 : d 8 = true := by first | exact hdd _ List.mem_cons_self | exact hdd _ (List.mem_cons_of_mem _ List.mem_cons_self) | exact hdd _ (List.mem_cons_of_mem _ (List.mem_cons_of_mem _ List.mem_cons_self)) | exact hdd _ (List.mem_cons_of_mem _ (List.mem_cons_of_mem _ (List.mem_cons_of_mem _ List.mem_cons_self))) | exact hdd _ (List.mem_cons_of_mem _ (List.mem_cons_of_mem _ (List.mem_cons_of_mem _ (List.mem_cons_of_mem _ List.mem_cons_self)))) | exact hdd _ (List.mem_cons_of_mem _ (List.mem_cons_of_mem _ (List.mem_cons_of_mem _ (List.mem_cons_of_mem _ (List.mem_cons_of_mem _ List.mem_cons_self))))) | exact hdd _ (List.mem_cons_of_mem _ (List.mem_cons_of_mem _ (List.mem_cons_of_mem _ (List.mem_cons_of_mem _ (List.mem_cons_of_mem _ (List.mem_cons_of_mem _ List.mem_cons_self)))))) | exact hdd _ (List.mem_cons_of_mem _ (List.mem_cons_of_mem _ (List.mem_cons_of_mem _ (List.mem_cons_of_mem _ (List.mem_cons_of_mem _ (List.mem_cons_of_mem _ (List.mem_cons_of_mem _ List.mem_cons_self))))))) | exact hdd _ (List.mem_cons_of_mem _ (List.mem_cons_of_mem _ (List.mem_cons_of_mem _ (List.mem_cons_of_mem _ (List.mem_cons_of_mem _ (List.mem_cons_of_mem _ (List.mem_cons_of_mem _ (List.mem_cons_of_mem _ List.mem_cons_self)))))))) | exact hdd _ (List.mem_cons_of_mem _ (List.mem_cons_of_mem _ (List.mem_cons_of_mem _ (List.mem_cons_of_mem _ (List.mem_cons_of_mem _ (List.mem_cons_of_mem _ (List.mem_cons_of_mem _ (List.mem_cons_of_mem _ (List.mem_cons_of_mem _ List.mem_cons_self))))))))) | exact hdd _ (List.mem_cons_of_mem _ (List.mem_cons_of_mem _ (List.mem_cons_of_mem _ (List.mem_cons_of_mem _ (List.mem_cons_of_mem _ (List.mem_cons_of_mem _ (List.mem_cons_of_mem _ (List.mem_cons_of_mem _ (List.mem_cons_of_mem _ (List.mem_cons_of_mem _ List.mem_cons_self)))))))))) | exact hdd _ (List.mem_cons_of_mem _ (List.mem_cons_of_mem _ (List.mem_cons_of_mem _ (List.mem_cons_of_mem _ (List.mem_cons_of_mem _ (List.mem_cons_of_mem _ (List.mem_cons_of_mem _ (List.mem_cons_of_mem _ (List.mem_cons_of_mem _ (List.mem_cons_of_mem _ (List.mem_cons_of_mem _ List.mem_cons_self)))))))))))
      have z := obj_cell hS.2.2.2.2.2.1 1
      simp only [List.getElem?_toArray, List.getElem?_cons_zero, List.getElem?_cons_succ] at z
      have tz := obj_frozen hS.2.2.2.2.2.1 1
      refine ⟨rfl, ?_⟩
      unfold outA at hK ⊢
      simp only [d0, d1] at hK ⊢
      go_wp2
      have F := (Fr.refl (fun j => j = g) w').setCell (p := ⟨g, 1, none⟩) (fun _ => rfl) (.slice (some ⟨r, 0, none⟩) (l.length - 1) cap)
      refine hK undef _ ⟨F.obj hS.1 hgn, F.obj hS.2.1 (Ne.symm hgp), hS.2.2.1.fr F hcg, hS.2.2.2.1.trans F (fun i _ e => .inr (.inl e)), fun _ => by simp [e4], ?_, ?_⟩ trivial (fun _ _ _ h => h)
      · rw [if_pos (by simp)]
        exact obj_set hS.2.2.2.2.2.1 1 _
      · rw [if_pos (by simp [e8])]
        have hrw := hS.2.2.2.2.2.2
        rw [if_pos e8] at hrw
        exact row_fr hrw F (fun j e => by cases e; exact hrg)
  · intro u hu d x w' hS hd hv
    have h8 := hd 8 (by decide)
    have h11 := hd 11 (by decide)
    obtain ⟨s1, s2, s3, s4, s5, s6, s7⟩ := hS
    rw [if_pos h11] at s6
    rw [if_pos h8] at s7
    have HP := hide (show NT w' g (.slice (some ⟨r, 0, none⟩) (l.length - 1) cap) c ⟨nn, l.eraseIdx k, L⟩ ∧ w'.heap[bp]? = some (.cells l[k].cells.toArray 214 (0, 0)) ∧ Fr (fun j => j = bp ∨ j = g ∨ j = r) w w' from ⟨⟨s6, s7, s3⟩, s2, s4⟩)
    clear s1 s2 s3 s4 s5 s6 s7 hv hd hu h8 h11
    unfold outA
    go_wp2
    go_end0
    exact ⟨rfl, HP.out⟩
end Go.Proofs.Ytljmaicobafgkaa
end
section
/- Chapter 13, net: pick. -/
namespace Go.Proofs.Ytljmaicobafgkaa
open Go.RowKit

def atI (i : Int) (n : Nat) : Nat := (i.tmod n % n).toNat
theorem atI_eq (i : Int) {n : Nat} (h : 0 < n) : i.tmod n % n = ((atI i n : Nat) : Int) := by
  have h1 := Int.emod_nonneg (i.tmod n) (b := (n : Int)) (by omega)
  unfold atI
  omega
theorem atI_lt (i : Int) {n : Nat} (h : 0 < n) : atI i n < n := by
  have h1 := atI_eq i h
  have h2 := Int.emod_lt_of_pos (i.tmod n) (b := (n : Int)) (by omega)
  omega
theorem tmod_rng (i : Int) {n : Nat} (h : 0 < n) : -(n : Int) < i.tmod n ∧ i.tmod n < n := by
  have h1 := Int.tmod_lt_of_pos i (b := (n : Int)) (by omega)
  have h2 := Int.lt_tmod_of_pos i (b := (n : Int)) (by omega)
  omega
theorem NT.off {w : World} {g c : Nat} {v : Value} {N : NetS} (h : NT w g v c N) (h0 : N.way.length = 0) : ∃ A cap, v = .slice A 0 cap := by
  obtain ⟨A, cap, e⟩ := h.slice
  exact ⟨A, cap, by rw [e, h0]⟩
set_option maxHeartbeats 4000000 in
set_option maxRecDepth 100000 in
theorem pick_174 {R : World → Prop} {w : World} {g c : Nat} {v : Value} {N : NetS} (hN : NT w g v c N) (h0 : 0 < N.way.length) (hb : N.way.length ≤ 1048576) (i : Int) (c1 c2 : Value)
    (hf : Calls Try.prog 174 #[.int .i64 ((atI i N.way.length : Nat) : Int), c1, c2] w fun e w' => e = .returned (.tuple #[]) ∧ R w') :
    Calls Try.prog 137 #[.pointer (some ⟨g, 0, none⟩), .int .i64 i, .func (.func 174) #[] #[c1, c2]] w fun e w' => e = .returned (.bool true) ∧ R w' := by
  have hw := hide (waiting_any hN)
  obtain ⟨A, cap, rfl⟩ := hN.slice
  have g1 := obj_cell hN.1 1
  simp only [List.getElem?_toArray, List.getElem?_cons_zero, List.getElem?_cons_succ] at g1
  obtain ⟨n, hn⟩ : ∃ n, n = N.way.length := ⟨_, rfl⟩
  rw [← hn] at hw g1 h0 hb hf
  have hr := tmod_rng i h0
  have HF := hide hf
  have HA := hide (atI_eq i h0)
  clear hN hn hf
  go_enter Try.func137, Try.ntmps137
  go_wp2_with fail
  refine hw.out.mono ?_
  rintro e w1 ⟨rfl, rfl⟩
  go_wp2_with fail
  rw [HA.out]
  refine HF.out.mono ?_
  rintro e w2 ⟨rfl, hR⟩
  have HR := hide hR
  clear hR
  go_wp2
  go_ret
  exact ⟨rfl, HR.out⟩
set_option maxHeartbeats 4000000 in
set_option maxRecDepth 100000 in
theorem pick_174_off {w : World} {g c : Nat} {v : Value} {N : NetS} (hN : NT w g v c N) (h0 : N.way.length = 0) (i : Int) (c1 c2 : Value) :
    Calls Try.prog 137 #[.pointer (some ⟨g, 0, none⟩), .int .i64 i, .func (.func 174) #[] #[c1, c2]] w fun e w' => e = .returned (.bool false) ∧ w' = w := by
  have hw := hide (waiting_any hN)
  rw [h0] at hw
  clear hN
  go_enter Try.func137, Try.ntmps137
  go_wp2_with fail
  refine hw.out.mono ?_
  rintro e w1 ⟨rfl, rfl⟩
  go_wp2
  go_ret
  exact ⟨rfl, rfl⟩
set_option maxHeartbeats 4000000 in
set_option maxRecDepth 100000 in
theorem pick_174_nil (w : World) (i : Int) (c1 c2 : Value) :
    Calls Try.prog 137 #[.pointer none, .int .i64 i, .func (.func 174) #[] #[c1, c2]] w fun e w' => e = .returned (.bool false) ∧ w' = w := by
  go_enter Try.func137, Try.ntmps137
  go_wp2_with fail
  refine (waiting_nil _).mono ?_
  rintro e w1 ⟨rfl, rfl⟩
  go_wp2
  go_ret
  exact ⟨rfl, rfl⟩
set_option maxHeartbeats 4000000 in
set_option maxRecDepth 100000 in
theorem pick_138 {R : World → Prop} {w : World} {g c : Nat} {v : Value} {N : NetS} (hN : NT w g v c N) (h0 : 0 < N.way.length) (hb : N.way.length ≤ 1048576) (i : Int) (c1 : Value)
    (hf : Calls Try.prog 138 #[.int .i64 ((atI i N.way.length : Nat) : Int), c1] w fun e w' => e = .returned (.tuple #[]) ∧ R w') :
    Calls Try.prog 137 #[.pointer (some ⟨g, 0, none⟩), .int .i64 i, .func (.func 138) #[] #[c1]] w fun e w' => e = .returned (.bool true) ∧ R w' := by
  have hw := hide (waiting_any hN)
  obtain ⟨A, cap, rfl⟩ := hN.slice
  have g1 := obj_cell hN.1 1
  simp only [List.getElem?_toArray, List.getElem?_cons_zero, List.getElem?_cons_succ] at g1
  obtain ⟨n, hn⟩ : ∃ n, n = N.way.length := ⟨_, rfl⟩
  rw [← hn] at hw g1 h0 hb hf
  have hr := tmod_rng i h0
  have HF := hide hf
  have HA := hide (atI_eq i h0)
  clear hN hn hf
  go_enter Try.func137, Try.ntmps137
  go_wp2_with fail
  refine hw.out.mono ?_
  rintro e w1 ⟨rfl, rfl⟩
  go_wp2_with fail
  rw [HA.out]
  refine HF.out.mono ?_
  rintro e w2 ⟨rfl, hR⟩
  have HR := hide hR
  clear hR
  go_wp2
  go_ret
  exact ⟨rfl, HR.out⟩
set_option maxHeartbeats 4000000 in
set_option maxRecDepth 100000 in
theorem pick_138_off {w : World} {g c : Nat} {v : Value} {N : NetS} (hN : NT w g v c N) (h0 : N.way.length = 0) (i : Int) (c1 : Value) :
    Calls Try.prog 137 #[.pointer (some ⟨g, 0, none⟩), .int .i64 i, .func (.func 138) #[] #[c1]] w fun e w' => e = .returned (.bool false) ∧ w' = w := by
  have hw := hide (waiting_any hN)
  rw [h0] at hw
  clear hN
  go_enter Try.func137, Try.ntmps137
  go_wp2_with fail
  refine hw.out.mono ?_
  rintro e w1 ⟨rfl, rfl⟩
  go_wp2
  go_ret
  exact ⟨rfl, rfl⟩
set_option maxHeartbeats 4000000 in
set_option maxRecDepth 100000 in
theorem pick_138_nil (w : World) (i : Int) (c1 : Value) :
    Calls Try.prog 137 #[.pointer none, .int .i64 i, .func (.func 138) #[] #[c1]] w fun e w' => e = .returned (.bool false) ∧ w' = w := by
  go_enter Try.func137, Try.ntmps137
  go_wp2_with fail
  refine (waiting_nil _).mono ?_
  rintro e w1 ⟨rfl, rfl⟩
  go_wp2
  go_ret
  exact ⟨rfl, rfl⟩
set_option maxHeartbeats 4000000 in
set_option maxRecDepth 100000 in
theorem pick_142 {R : World → Prop} {w : World} {g c : Nat} {v : Value} {N : NetS} (hN : NT w g v c N) (h0 : 0 < N.way.length) (hb : N.way.length ≤ 1048576) (i : Int) (c1 c2 c3 : Value)
    (hf : Calls Try.prog 142 #[.int .i64 ((atI i N.way.length : Nat) : Int), c1, c2, c3] w fun e w' => e = .returned (.tuple #[]) ∧ R w') :
    Calls Try.prog 137 #[.pointer (some ⟨g, 0, none⟩), .int .i64 i, .func (.func 142) #[] #[c1, c2, c3]] w fun e w' => e = .returned (.bool true) ∧ R w' := by
  have hw := hide (waiting_any hN)
  obtain ⟨A, cap, rfl⟩ := hN.slice
  have g1 := obj_cell hN.1 1
  simp only [List.getElem?_toArray, List.getElem?_cons_zero, List.getElem?_cons_succ] at g1
  obtain ⟨n, hn⟩ : ∃ n, n = N.way.length := ⟨_, rfl⟩
  rw [← hn] at hw g1 h0 hb hf
  have hr := tmod_rng i h0
  have HF := hide hf
  have HA := hide (atI_eq i h0)
  clear hN hn hf
  go_enter Try.func137, Try.ntmps137
  go_wp2_with fail
  refine hw.out.mono ?_
  rintro e w1 ⟨rfl, rfl⟩
  go_wp2_with fail
  rw [HA.out]
  refine HF.out.mono ?_
  rintro e w2 ⟨rfl, hR⟩
  have HR := hide hR
  clear hR
  go_wp2
  go_ret
  exact ⟨rfl, HR.out⟩
set_option maxHeartbeats 4000000 in
set_option maxRecDepth 100000 in
theorem pick_142_off {w : World} {g c : Nat} {v : Value} {N : NetS} (hN : NT w g v c N) (h0 : N.way.length = 0) (i : Int) (c1 c2 c3 : Value) :
    Calls Try.prog 137 #[.pointer (some ⟨g, 0, none⟩), .int .i64 i, .func (.func 142) #[] #[c1, c2, c3]] w fun e w' => e = .returned (.bool false) ∧ w' = w := by
  have hw := hide (waiting_any hN)
  rw [h0] at hw
  clear hN
  go_enter Try.func137, Try.ntmps137
  go_wp2_with fail
  refine hw.out.mono ?_
  rintro e w1 ⟨rfl, rfl⟩
  go_wp2
  go_ret
  exact ⟨rfl, rfl⟩
set_option maxHeartbeats 4000000 in
set_option maxRecDepth 100000 in
theorem pick_142_nil (w : World) (i : Int) (c1 c2 c3 : Value) :
    Calls Try.prog 137 #[.pointer none, .int .i64 i, .func (.func 142) #[] #[c1, c2, c3]] w fun e w' => e = .returned (.bool false) ∧ w' = w := by
  go_enter Try.func137, Try.ntmps137
  go_wp2_with fail
  refine (waiting_nil _).mono ?_
  rintro e w1 ⟨rfl, rfl⟩
  go_wp2
  go_ret
  exact ⟨rfl, rfl⟩
def z214a : Array Value := #[.int .i64 0, .int .i64 0, .string ⟨#[]⟩]
set_option maxHeartbeats 4000000 in
set_option maxRecDepth 100000 in
theorem out_nil (i : Int) (w : World) : Calls Try.prog 136 #[.pointer none, .int .i64 i] w fun e w' => e = .returned (.tuple #[.agg z214a, .bool false]) ∧ Below w.heap.size w w' := by
  have HB := hide ((((Below.refl w.heap.size w).alloc (Nat.le_refl _) (.cells #[.pointer none] 107)).alloc (by simp) (.cells z214a 214)).alloc (by simp only [World.size_alloc]; omega) (.cells z214a 214))
  go_enter Try.func136, Try.ntmps136
  go_wp2_with fail
  refine (pick_174_nil _ i _ _).mono ?_
  rintro e w1 ⟨rfl, rfl⟩
  go_wp2
  refine bodyPost_ret (res_ct rfl _ _ (w.heap.size + 1) 214 z214a (0, 0) _ rfl (obj_alloc (obj_new' w _ _) _) Try.underlying214 rfl info214s) rfl ?_
  exact ⟨rfl, HB.out⟩
/-- One taken out. -/
def outN (N : NetS) (k : Nat) : NetS := ⟨N.n, N.way.eraseIdx k, N.cuts⟩
set_option maxHeartbeats 4000000 in
set_option maxRecDepth 100000 in
theorem out_off {w : World} {g c : Nat} {v : Value} {N : NetS} (hN : NT w g v c N) (h0 : N.way.length = 0) (i : Int) : Calls Try.prog 136 #[.pointer (some ⟨g, 0, none⟩), .int .i64 i] w fun e w' => e = .returned (.tuple #[.agg z214a, .bool false]) ∧ Below w.heap.size w w' := by
  have hb := (((Below.refl w.heap.size w).alloc (Nat.le_refl _) (.cells #[.pointer (some ⟨g, 0, none⟩)] 107)).alloc (by simp) (.cells z214a 214)).alloc (by simp only [World.size_alloc]; omega) (.cells z214a 214)
  have HP := hide (fun c1 c2 => pick_174_off (hN.below hb) h0 i c1 c2)
  have HB := hide hb
  clear hN hb
  unfold z214a at HP
  go_enter Try.func136, Try.ntmps136
  go_wp2_with fail
  refine (HP.out _ _).mono ?_
  rintro e w1 ⟨rfl, rfl⟩
  go_wp2
  refine bodyPost_ret (res_ct rfl _ _ (w.heap.size + 1) 214 z214a (0, 0) _ rfl (obj_alloc (obj_new' w _ _) _) Try.underlying214 rfl info214s) rfl ?_
  exact ⟨rfl, HB.out⟩
set_option maxHeartbeats 4000000 in
set_option maxRecDepth 100000 in
theorem out_any {w : World} {g c r cap : Nat} {N : NetS} (hN : NT w g (.slice (some ⟨r, 0, none⟩) N.way.length cap) c N) (h0 : 0 < N.way.length) (hl : N.way.length ≤ 1048576) (i : Int) : Calls Try.prog 136 #[.pointer (some ⟨g, 0, none⟩), .int .i64 i] w fun e w' =>
    e = .returned (.tuple #[.agg (N.way[atI i N.way.length]'(atI_lt i h0)).cells.toArray, .bool true]) ∧ NT w' g (.slice (some ⟨r, 0, none⟩) (N.way.length - 1) cap) c (outN N (atI i N.way.length)) ∧ Fr (fun j => j = g ∨ j = r) w w' := by
  have hg := obj_lt hN.1
  have hr := row_lt hN.2.1 (k := r) rfl
  obtain ⟨W, hW⟩ : ∃ W, W = (((w.alloc (.cells #[.pointer (some ⟨g, 0, none⟩)] 107)).alloc (.cells z214a 214)).alloc (.cells z214a 214)) := ⟨_, rfl⟩
  have hb : Below w.heap.size w W := hW ▸ (((Below.refl w.heap.size w).alloc (Nat.le_refl _) (.cells #[.pointer (some ⟨g, 0, none⟩)] 107)).alloc (by simp) (.cells z214a 214)).alloc (by simp only [World.size_alloc]; omega) (.cells z214a 214)
  have o0 : W.heap[w.heap.size]? = some (.cells #[.pointer (some ⟨g, 0, none⟩)] 107 (0, 0)) := hW ▸ obj_alloc (obj_alloc (obj_new _ _) _) _
  have o1 : W.heap[w.heap.size + 1]? = some (.cells z214a 214 (0, 0)) := hW ▸ obj_alloc (obj_new' w _ _) _
  have o2 : W.heap[w.heap.size + 1 + 1]? = some (.cells z214a 214 (0, 0)) := hW ▸ (by
    have := obj_new' (w.alloc (.cells #[.pointer (some ⟨g, 0, none⟩)] 107)) (.cells z214a 214) (.cells z214a 214)
    rwa [World.size_alloc] at this)
  have hN2 := hN.below hb
  have hc := pick_174 hN2 h0 hl i _ _ (out1_any hN2 o0 o2 rfl (by omega) (atI_lt i h0))
  have HC := hide hc
  have HO1 := hide o1
  have HB := hide hb
  have HWE := hide hW
  have HCL := hide hN.2.2.lt
  clear hW o0 o1 o2 hN hN2 hc hb
  go_enter Try.func136, Try.ntmps136
  go_wp2_with fail
  rw [show z214a = #[.int .i64 0, .int .i64 0, .string ⟨#[]⟩] from rfl] at HWE
  rw [← HWE.out]
  refine HC.out.mono ?_
  rintro e w1 ⟨rfl, hN1, hbp, hf⟩
  obtain ⟨p, hp⟩ : ∃ p, p = N.way[atI i N.way.length]'(atI_lt i h0) := ⟨_, rfl⟩
  have ho1 := hf.obj HO1.out (by omega)
  have hst := store_whole (P := Try.prog) (ty := 214) ho1 (cells := p.cells.toArray) (by rw [show (p.cells.toArray).size = 3 from rfl]; exact info214s) rfl (by simp [Pcl.cells, Value.oneCell'])
  rw [← hp] at hbp
  have q0 := obj_cell hbp 0
  have q1 := obj_cell hbp 1
  have q2 := obj_cell hbp 2
  simp only [Pcl.cells, List.getElem?_toArray, List.getElem?_cons_zero, List.getElem?_cons_succ] at q0 q1 q2
  have HP := hide hp
  have hF2 := setRow_fr' w1 (w.heap.size + 1) p.cells.toArray
  have HFIN : Hid (NT (w1.setRow (w.heap.size + 1) p.cells.toArray) g (.slice (some ⟨r, 0, none⟩) (N.way.length - 1) cap) c (outN N (atI i N.way.length)) ∧ Fr (fun j => j = g ∨ j = r) w (w1.setRow (w.heap.size + 1) p.cells.toArray)) :=
    hide ⟨NT.fr hN1 hF2 (by omega) (by have := HCL.out; omega) (fun j e => by cases e; show ¬ r = w.heap.size + 1; omega), ((Fr.of_below HB.out).trans hf (fun i hi e => by omega)).trans hF2 (fun i hi e => by omega)⟩
  have HST := hide hst
  have HO := hide (setRow_at' (C' := p.cells.toArray) ho1)
  clear hN1 hbp hf hF2 hst ho1 hp HWE HC
  go_wp2_with (refine wpList_storev' rfl 214 (.tmp 4) (.tmp 12) rfl rfl rfl HST.out ?_)
  refine bodyPost_ret (res_ct rfl _ _ (w.heap.size + 1) 214 _ (0, 0) _ rfl HO.out Try.underlying214 rfl info214s) rfl ?_
  rw [← HP.out]
  exact ⟨rfl, HFIN.out⟩
end Go.Proofs.Ytljmaicobafgkaa
end
section
/- Chapter 13, net: the map of links that are cut. -/
namespace Go.Proofs.Ytljmaicobafgkaa
open Go.RowKit

theorem eq211 (p q : Int × Int) (w : World) : (Op.equal 211 (lkey p) (lkey q)).run Try.prog w = .ok (decide (p = q)) w := by
  have hS : Try.prog.underlying 211 = some (.struct (Try.prog.fieldsOf 211)) := by kernel_rfl
  have hp : Try.prog.stoodInHeld 211 = false := by kernel_rfl
  unfold lkey Op.equal
  rw [show Op.maxDepth = 9999 + 1 from rfl, run_equalIn_struct w 9999 211 _ _ hS hp]
  simp only [Program.fieldsOf, Try.underlying211]
  go_simp
  obtain ⟨a, b⟩ := p
  obtain ⟨x, y⟩ := q
  by_cases h1 : a = x <;> by_cases h2 : b = y <;> simp [h1, h2]
theorem check3 (em : Bool) (n : Int) (w : World) (d : Nat) : (Instr.checkKey em (d + 1) 3 (.int .i64 n)).run Try.prog w = .ok () w := by
  unfold Instr.checkKey
  simp [run_underlying Try.underlying3]
theorem check211 (em : Bool) (p : Int × Int) (w : World) : (Instr.checkKey em 10000 211 (lkey p)).run Try.prog w = .ok () w := by
  have h3 := fun n w => check3 em n w 9998
  have hp0 : ∀ w : World, (part 3 #[.int .i64 p.1, .int .i64 p.2] 0).run Try.prog w = .ok (.int .i64 p.1) w := fun w => by go_simp
  have hp1 : ∀ w : World, (part 3 #[.int .i64 p.1, .int .i64 p.2] 1).run Try.prog w = .ok (.int .i64 p.2) w := fun w => by go_simp
  unfold lkey
  rw [show (10000 : Nat) = 9999 + 1 from rfl, Instr.checkKey]
  simp [run_underlying Try.underlying211, hp0, hp1, h3]
theorem getMap {w : World} {r : Nat} {es : Array MapEntry} {clock : Nat} (hb : w.heap[r]? = some (.map es clock)) : (getObj r).run Try.prog w = .ok (.map es clock) w := by
  simp [getObj, Sem.run, hb]
theorem setMap {w : World} {r : Nat} {es : Array MapEntry} {clock : Nat} (o : Obj) (hb : w.heap[r]? = some (.map es clock)) : (setObj r o).run Try.prog w = .ok () { w with heap := w.heap.setIfInBounds r o } := by
  simp [setObj, Sem.run, hb]
theorem hp_set {w : World} {r : Nat} {o : Obj} (o' : Obj) (hb : w.heap[r]? = some o) : (w.heap.setIfInBounds r o')[r]? = some o' ∧ ∀ r', r' ≠ r → (w.heap.setIfInBounds r o')[r']? = w.heap[r']? := by
  have hlt : r < w.heap.size := (Array.getElem?_eq_some_iff.1 hb).1
  exact ⟨by simp [hlt], fun r' hne => by simp [Ne.symm hne]⟩
theorem find211 (p : Int × Int) (w : World) : ∀ (es : List MapEntry) (L : List (Int × Int)) (i : Nat), es.map (fun e => (e.key, e.val)) = L.map (fun p => (lkey p, Value.bool true)) →
    (p ∉ L ∧ (Instr.findAsking 211 (lkey p) es i).run Try.prog w = .ok none w) ∨ (∃ j, j < L.length ∧ L[j]? = some p ∧ (Instr.findAsking 211 (lkey p) es i).run Try.prog w = .ok (some (i + j, .bool true)) w)
  | [], [], i, _ => .inl ⟨by simp, rfl⟩
  | [], _ :: _, _, h => by simp at h
  | _ :: _, [], _, h => by simp at h
  | e :: es, q :: L, i, h => by
    simp only [List.map_cons, List.cons.injEq, Prod.mk.injEq] at h
    obtain ⟨⟨hk, hv⟩, h⟩ := h
    have he := eq211 p q w
    by_cases hpq : p = q
    · refine .inr ⟨0, by simp, by simp [hpq], ?_⟩
      rw [decide_eq_true hpq] at he
      simp only [Instr.findAsking, hk, hv, Sem.run_bind, he, Result.andThen_ok, if_true, Sem.run_pure, Nat.add_zero]
    · rw [decide_eq_false hpq] at he
      have hr : (Instr.findAsking 211 (lkey p) (e :: es) i).run Try.prog w = (Instr.findAsking 211 (lkey p) es (i + 1)).run Try.prog w := by
        simp [Instr.findAsking, hk, he]
      rw [hr]
      rcases find211 p w es L (i + 1) h with ⟨h1, h2⟩ | ⟨j, h1, h2, h3⟩
      · exact .inl ⟨by simp [hpq, h1], h2⟩
      · exact .inr ⟨j + 1, by simp; omega, by simpa using h2, by rw [h3, show i + 1 + j = i + (j + 1) from by omega]⟩
theorem lookup_any {w : World} {c : Nat} {C : Int × Int → Bool} (h : CM w c C) (p : Int × Int) : (Instr.lookup 206 (.map (some c)) (lkey p) false).run Try.prog w = .ok (.bool (C p)) w := by
  obtain ⟨es, ck, hc, L, hL, hn, hC⟩ := h
  have hg := getMap hc
  have hck := check211 es.isEmpty p w
  have hf := run_findKey_eq (P := Try.prog) w (k := 211) (by kernel_rfl) (lkey p) es.toList
  rw [hC p]
  rcases find211 p w es.toList L 0 hL with ⟨h1, h2⟩ | ⟨j, h1, h2, h3⟩
  · rw [decide_eq_false h1]
    rw [h2] at hf
    simp [Instr.lookup, run_underlying Try.underlying206, hg, hck, hf]
  · rw [decide_eq_true (List.mem_of_getElem? h2)]
    rw [h3] at hf
    simp [Instr.lookup, run_underlying Try.underlying206, hg, hck, hf]
theorem map_out {α β : Type} (f : α → β) : ∀ (l : List α) (j : Nat), (l.eraseIdx j).map f = (l.map f).eraseIdx j
  | [], _ => by simp
  | _ :: _, 0 => by simp
  | _ :: l, j + 1 => by simp [map_out f l j]
theorem nodup_out {L : List (Int × Int)} {p : Int × Int} {j : Nat} (hn : L.Nodup) (hj : j < L.length) (h : L[j]? = some p) : ∀ q, q ∈ L.eraseIdx j ↔ q ∈ L ∧ q ≠ p := by
  intro q
  rw [List.mem_eraseIdx_iff_getElem?]
  constructor
  · rintro ⟨i, hi, hq⟩
    refine ⟨List.mem_of_getElem? hq, ?_⟩
    rintro rfl
    obtain ⟨a1, a2⟩ := List.getElem?_eq_some_iff.1 h
    obtain ⟨b1, b2⟩ := List.getElem?_eq_some_iff.1 hq
    exact hi ((List.getElem_inj hn).1 (b2.trans a2.symm))
  · rintro ⟨hq, hne⟩
    obtain ⟨i, hi, rfl⟩ := List.getElem_of_mem hq
    refine ⟨i, ?_, List.getElem?_eq_getElem hi⟩
    rintro rfl
    rw [List.getElem?_eq_getElem hi] at h
    exact hne (Option.some.inj h)
/-- A link is cut. -/
theorem update_any {w : World} {c : Nat} {C : Int × Int → Bool} (h : CM w c C) (p : Int × Int) : ∃ w', (Instr.mapUpdate 206 (.map (some c)) (lkey p) (.bool true)).run Try.prog w = .ok () w' ∧ CM w' c (fun q => if q = p then true else C q) ∧ Fr (fun j => j = c) w w' := by
  obtain ⟨es, ck, hc, L, hL, hn, hC⟩ := h
  have hg := getMap hc
  have hck := check211 false p w
  have hf := run_findKey_eq (P := Try.prog) w (k := 211) (by kernel_rfl) (lkey p) es.toList
  have hfr : ∀ o, Fr (fun j => j = c) w { w with heap := w.heap.setIfInBounds c o } := fun o => ⟨rfl, rfl, rfl, by simp, fun k _ hk => (hp_set o hc).2 k hk⟩
  rcases find211 p w es.toList L 0 hL with ⟨h1, h2⟩ | ⟨j, h1, h2, h3⟩
  · rw [h2] at hf
    refine ⟨_, ?_, ⟨es.push { key := lkey p, val := .bool true, born := ck }, ck + 1, (hp_set _ hc).1, L ++ [p], by simp [hL], ?_, ?_⟩, hfr _⟩
    · simp [Instr.mapUpdate, run_underlying Try.underlying206, hg, hck, hf, setMap _ hc]
    · rw [List.nodup_append]
      exact ⟨hn, by simp, fun a ha b hb => by simp at hb; rintro rfl; exact h1 (hb ▸ ha)⟩
    · intro q
      by_cases e : q = p <;> simp [e, hC q]
  · rw [h3] at hf
    have hes : es[j]?.map (fun e => (e.key, e.val)) = some (lkey p, Value.bool true) := by
      have := congrArg (fun l => l[j]?) hL
      simpa [h2] using this
    obtain ⟨e0, he0, hk0⟩ := Option.map_eq_some_iff.1 hes
    simp only [Prod.mk.injEq] at hk0
    have hst : ∀ w : World, (Instr.keyThatStays (lkey p) (lkey p)).run Try.prog w = .ok (lkey p) w := fun w => by
      have : Instr.sameBits 10000 (lkey p) (lkey p) = true := by
        unfold lkey
        rw [show (10000 : Nat) = 9999 + 1 from rfl]
        simp [Instr.sameBits]
      simp [Instr.keyThatStays, this]
    refine ⟨_, ?_, ⟨es.modify j fun e => { e with key := lkey p, val := .bool true }, ck, (hp_set _ hc).1, L, ?_, hn, ?_⟩, hfr _⟩
    · simp [Instr.mapUpdate, run_underlying Try.underlying206, hg, hck, hf, setMap _ hc, he0, hk0.1, hst]
    · rw [← hL]
      refine List.ext_getElem? fun i => ?_
      simp only [List.getElem?_map, Array.getElem?_toList, Array.getElem?_modify]
      by_cases e : j = i
      · subst e
        simp [he0, hk0.1, hk0.2]
      · simp [e]
    · intro q
      by_cases e : q = p
      · subst e
        simp [List.mem_of_getElem? h2]
      · simp [e, hC q]
/-- .. and is no more. -/
theorem mdelete_any {w : World} {c : Nat} {C : Int × Int → Bool} (h : CM w c C) (p : Int × Int) (ty : TypeId) : ∃ w', (Builtin.delete_ #[206, 211] ty #[.map (some c), lkey p]).run Try.prog w = .ok (.tuple #[]) w' ∧ CM w' c (fun q => if q = p then false else C q) ∧ Fr (fun j => j = c) w w' := by
  obtain ⟨es, ck, hc, L, hL, hn, hC⟩ := h
  have hg := getMap hc
  have hck := check211 es.isEmpty p w
  have hf := run_findKey_eq (P := Try.prog) w (k := 211) (by kernel_rfl) (lkey p) es.toList
  have hfr : ∀ o, Fr (fun j => j = c) w { w with heap := w.heap.setIfInBounds c o } := fun o => ⟨rfl, rfl, rfl, by simp, fun k _ hk => (hp_set o hc).2 k hk⟩
  rcases find211 p w es.toList L 0 hL with ⟨h1, h2⟩ | ⟨j, h1, h2, h3⟩
  · rw [h2] at hf
    refine ⟨_, ?_, ⟨es, ck, (hp_set _ hc).1, L, hL, hn, ?_⟩, hfr _⟩
    · simp [Builtin.delete_, run_underlying Try.underlying206, hg, hck, hf, setMap _ hc]
    · intro q
      by_cases e : q = p
      · simp [e, h1]
      · simp [e, hC q]
  · rw [h3] at hf
    refine ⟨_, ?_, ⟨es.eraseIdxIfInBounds j, ck, (hp_set _ hc).1, L.eraseIdx j, ?_, hn.eraseIdx j, ?_⟩, hfr _⟩
    · simp [Builtin.delete_, run_underlying Try.underlying206, hg, hck, hf, setMap _ hc]
    · have he : (es.eraseIdxIfInBounds j).toList = es.toList.eraseIdx j := by simp
      rw [he, map_out, map_out, hL]
    · intro q
      have := nodup_out hn h1 h2 q
      by_cases e : q = p
      · subst e
        simp [this]
      · simp [e, this, hC q]
end Go.Proofs.Ytljmaicobafgkaa
end
