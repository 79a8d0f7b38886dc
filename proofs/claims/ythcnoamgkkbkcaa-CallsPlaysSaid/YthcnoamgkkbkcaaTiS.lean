/- Chapter 07, timers: two of a pile change places. -/
import Derived.Test.YthcnoamgkkbkcaaTiM
import Derived.Test.YthcnoamgkkbkcaaGs
import Derived.Test.YthcnoamgkkbkcaaMp3
namespace Go.Proofs.Ythcnoamgkkbkcaa
open Go.RowKit

theorem AtOk.one {l : List Tm} {f : Int → Option Int} (h : AtOk l f) {k k' : Nat} (hk : k < l.length) (hk' : k' < l.length) (e : (tat l k).id = (tat l k').id) : k = k' := by
  have h1 := (h (tat l k).id k).2 ⟨k, hk, rfl, rfl⟩
  have h2 := (h (tat l k).id k').2 ⟨k', hk', e.symm, rfl⟩
  rw [h1] at h2
  simp at h2
  omega
theorem AtOk.swp {l : List Tm} {f : Int → Option Int} (h : AtOk l f) {i j : Nat} (hi : i < l.length) (hj : j < l.length) : AtOk (swp l i j) (upm (upm f (tat l j).id (some (i : Int))) (tat l i).id (some (j : Int))) := fun id v => by
  rw [swp_len]
  by_cases h1 : id = (tat l i).id
  · subst h1
    rw [upm_same]
    constructor
    · intro e
      cases e
      exact ⟨j, hj, by rw [swp_at hi hj, if_pos rfl], rfl⟩
    · rintro ⟨k, hk, e, rfl⟩
      rw [swp_at hi hj] at e
      split at e
      · rename_i hkj
        rw [hkj]
      · rename_i hkj
        split at e
        · rename_i hki
          have := h.one hj hi e
          subst hki
          omega
        · rename_i hki
          exact absurd (h.one hk hi e) hki
  · rw [upm_other _ _ h1]
    by_cases h2 : id = (tat l j).id
    · subst h2
      rw [upm_same]
      constructor
      · intro e
        cases e
        refine ⟨i, hi, ?_, rfl⟩
        rw [swp_at hi hj]
        split
        · rename_i hij
          rw [hij]
        · rw [if_pos rfl]
      · rintro ⟨k, hk, e, rfl⟩
        rw [swp_at hi hj] at e
        split at e
        · exact absurd e.symm h1
        · rename_i hkj
          split at e
          · rename_i hki
            rw [hki]
          · exact absurd (h.one hk hj e) hkj
    · rw [upm_other _ _ h2, h id v]
      constructor
      · rintro ⟨k, hk, e, rfl⟩
        refine ⟨k, hk, ?_, rfl⟩
        rw [swp_at hi hj, if_neg (fun e2 => h2 (by rw [← e, e2])), if_neg (fun e2 => h1 (by rw [← e, e2]))]
        exact e
      · rintro ⟨k, hk, e, rfl⟩
        rw [swp_at hi hj] at e
        split at e
        · exact absurd e.symm h1
        · split at e
          · exact absurd e.symm h2
          · exact ⟨k, hk, e, rfl⟩
structure SwS (w0 : World) (B p c r n cap : Nat) (l : List Tm) (f : Int → Option Int) (i j : Nat) (e1 e2 : Bool) (w : World) : Prop where
  pv : PV w B p c (.slice (some ⟨r, 0, none⟩) n cap) (if e2 = true then swp l i j else if e1 = true then l.set i (tat l j) else l) f
  fr : Fr (fun k => k = r) w0 w
section
variable {w0 w : World} {B p c r n cap : Nat} {l : List Tm} {f : Int → Option Int} {i j : Nat} {e1 e2 : Bool}
theorem SwS.one (h : SwS w0 B p c r n cap l f i j e1 e2 w) (hi : i < l.length) (_hj : j < l.length) (h1 : e1 = false) (h2 : e2 = false) (y : Tm) (hy : y = tat l j) :
    (Instr.storeAt 153 (.pointer (some ⟨r, i * 2, none⟩)) (.agg #[.int .i64 y.id, .int .i64 y.at_])).run Try.prog w = .ok () (w.setCells r (i * 2) (kT.cs y)) ∧ SwS w0 B p c r n cap l f i j true e2 (w.setCells r (i * 2) (kT.cs y)) := by
  have hpv := h.pv
  rw [h1, h2, if_neg (by decide), if_neg (by decide)] at hpv
  obtain ⟨a1, a2, a3⟩ := EK.row_put hpv.2.1 hi y
  have hne := hpv.vne (q := r) rfl
  refine ⟨a1, ⟨?_, h.fr.trans a3 (fun _ _ e => e)⟩⟩
  rw [h2, if_neg (by decide), if_pos rfl, ← hy]
  exact ⟨a3.obj hpv.1 (fun e => hne.1 e.symm), a2, MK.mp_fr hpv.2.2 a3 (fun e => hne.2 e.symm)⟩
theorem SwS.two (h : SwS w0 B p c r n cap l f i j e1 e2 w) (_hi : i < l.length) (hj : j < l.length) (h1 : e1 = true) (h2 : e2 = false) (x : Tm) (hx : x = tat l i) :
    (Instr.storeAt 153 (.pointer (some ⟨r, j * 2, none⟩)) (.agg #[.int .i64 x.id, .int .i64 x.at_])).run Try.prog w = .ok () (w.setCells r (j * 2) (kT.cs x)) ∧ SwS w0 B p c r n cap l f i j e1 true (w.setCells r (j * 2) (kT.cs x)) := by
  have hpv := h.pv
  rw [h1, h2, if_neg (by decide), if_pos rfl] at hpv
  obtain ⟨a1, a2, a3⟩ := EK.row_put hpv.2.1 (by rw [List.length_set]; exact hj) x
  have hne := hpv.vne (q := r) rfl
  refine ⟨a1, ⟨?_, h.fr.trans a3 (fun _ _ e => e)⟩⟩
  rw [if_pos rfl]
  unfold swp
  rw [← hx]
  exact ⟨a3.obj hpv.1 (fun e => hne.1 e.symm), a2, MK.mp_fr hpv.2.2 a3 (fun e => hne.2 e.symm)⟩
end
structure SwM (w0 : World) (B p c r n cap : Nat) (l : List Tm) (f : Int → Option Int) (k1 k2 : Int) (s1 s2 i j : Nat) (e1 e2 : Bool) (w : World) : Prop where
  o : w.heap[p]? = some (.cells #[.slice (some ⟨r, 0, none⟩) n cap, .map (some c), byT] 149 (0, 0))
  row : kT.row w B (.slice (some ⟨r, 0, none⟩) n cap) l
  mp : kA.mps w c (if e2 = true then upm (upm f k1 (some (i : Int))) k2 (some (j : Int)) else if e1 = true then upm f k1 (some (i : Int)) else f) [(k1, s1), (k2, s2)]
  fr : Fr (fun k => k = c) w0 w
  pc : p ≠ c
  rc : r ≠ c
section
variable {w0 w : World} {B p c r n cap : Nat} {l : List Tm} {f : Int → Option Int} {k1 k2 : Int} {s1 s2 i j : Nat} {e1 e2 : Bool}
theorem SwM.one (h : SwM w0 B p c r n cap l f k1 k2 s1 s2 i j e1 e2 w) (h1 : e1 = false) (h2 : e2 = false) :
    ∃ w', (Instr.entryStore 142 (.map (some c)) (.int .i64 (s1 : Int)) (.int .i64 (i : Int))).run Try.prog w = .ok () w' ∧ SwM w0 B p c r n cap l f k1 k2 s1 s2 i j true e2 w' := by
  have hm := h.mp
  rw [h1, h2, if_neg (by decide), if_neg (by decide)] at hm
  obtain ⟨w', a1, a2, a3, -⟩ := MK.run_sto (K := kA) hm (k := k1) (st := s1) (by simp) (i : Int)
  exact ⟨w', a1, ⟨a3.obj h.o h.pc, EK.row_fr h.row a3 (fun q hq e => h.rc (by cases hq; exact e)), by rw [h2, if_neg (by decide), if_pos rfl]; exact a2, h.fr.trans a3 (fun _ _ e => e), h.pc, h.rc⟩⟩
theorem SwM.two (h : SwM w0 B p c r n cap l f k1 k2 s1 s2 i j e1 e2 w) (h1 : e1 = true) (h2 : e2 = false) :
    ∃ w', (Instr.entryStore 142 (.map (some c)) (.int .i64 (s2 : Int)) (.int .i64 (j : Int))).run Try.prog w = .ok () w' ∧ SwM w0 B p c r n cap l f k1 k2 s1 s2 i j e1 true w' := by
  have hm := h.mp
  rw [h1, h2, if_neg (by decide), if_pos rfl] at hm
  obtain ⟨w', a1, a2, a3, -⟩ := MK.run_sto (K := kA) hm (k := k2) (st := s2) (by simp) (j : Int)
  exact ⟨w', a1, ⟨a3.obj h.o h.pc, EK.row_fr h.row a3 (fun q hq e => h.rc (by cases hq; exact e)), by rw [if_pos rfl]; exact a2, h.fr.trans a3 (fun _ _ e => e), h.pc, h.rc⟩⟩
end
def swA (p i j : Nat) (u x : Nat → Value) : Act := ⟨#[.pointer (some ⟨p, 0, none⟩), .int .i64 (i : Int), .int .i64 (j : Int), u 3, u 4, u 5, x 0, x 1, x 2, x 3, x 4, x 5, x 6, x 7, x 8, x 9, x 10, x 11, x 12, x 13, x 14, x 15, x 16, x 17, x 18, x 19, x 20, x 21, x 22, x 23, x 24, x 26, u 32, u 33, u 34, u 35, u 36, u 37, u 38, u 39, u 40, u 41, u 42, u 43, u 44, u 45, u 46, u 47, u 48, u 49, u 50, u 51, u 52, u 53, u 54, u 55, u 56, u 57, u 58, u 59, u 60, u 61], []⟩
def swV (p r n cap i j : Nat) (x y : Tm) (qx : Nat) (qw : Value) : Prop :=
  match qx with
  | 0 => qw = .pointer (some ⟨p, 0, none⟩)
  | 1 => qw = .pointer (some ⟨p, 0, none⟩)
  | 2 => qw = .pointer (some ⟨p, 0, none⟩)
  | 3 => qw = .slice (some ⟨r, 0, none⟩) n cap
  | 4 => qw = .int .i64 (i : Int)
  | 5 => qw = .pointer (some ⟨p, 0, none⟩)
  | 6 => qw = .pointer (some ⟨p, 0, none⟩)
  | 7 => qw = .pointer (some ⟨p, 0, none⟩)
  | 8 => qw = .slice (some ⟨r, 0, none⟩) n cap
  | 9 => qw = .int .i64 (j : Int)
  | 10 => qw = .pointer (some ⟨p, 0, none⟩)
  | 11 => qw = .pointer (some ⟨p, 0, none⟩)
  | 12 => qw = .pointer (some ⟨p, 0, none⟩)
  | 13 => qw = .slice (some ⟨r, 0, none⟩) n cap
  | 14 => qw = .int .i64 (j : Int)
  | 15 => qw = .pointer (some ⟨r, j * 2, none⟩)
  | 16 => qw = .agg #[.int .i64 y.id, .int .i64 y.at_]
  | 17 => qw = .pointer (some ⟨p, 0, none⟩)
  | 18 => qw = .pointer (some ⟨p, 0, none⟩)
  | 19 => qw = .pointer (some ⟨p, 0, none⟩)
  | 20 => qw = .slice (some ⟨r, 0, none⟩) n cap
  | 21 => qw = .int .i64 (i : Int)
  | 22 => qw = .pointer (some ⟨r, i * 2, none⟩)
  | 23 => qw = .agg #[.int .i64 x.id, .int .i64 x.at_]
  | 24 => qw = .pointer (some ⟨r, i * 2, none⟩)
  | 26 => qw = .pointer (some ⟨r, j * 2, none⟩)
  | _ => True
def swB (p i j : Nat) (u x : Nat → Value) : Act := ⟨#[.pointer (some ⟨p, 0, none⟩), .int .i64 (i : Int), .int .i64 (j : Int), u 3, u 4, u 5, u 6, u 7, u 8, u 9, u 10, u 11, u 12, u 13, u 14, u 15, u 16, u 17, u 18, u 19, u 20, u 21, u 22, u 23, u 24, u 25, u 26, u 27, u 28, u 29, u 30, u 31, x 0, x 1, x 2, x 3, x 4, x 5, x 6, x 7, x 8, x 9, x 10, x 11, x 12, x 13, x 14, x 15, x 16, x 17, x 18, x 19, x 20, x 21, x 22, x 23, x 24, x 25, x 26, x 27, x 29, x 30], []⟩
def swW (p c r n cap i j s1 s2 : Nat) (x y : Tm) (qx : Nat) (qw : Value) : Prop :=
  match qx with
  | 0 => qw = .pointer (some ⟨p, 0, none⟩)
  | 1 => qw = .pointer (some ⟨p, 0, none⟩)
  | 2 => qw = .pointer (some ⟨p, 1, none⟩)
  | 3 => qw = .map (some c)
  | 4 => qw = .pointer (some ⟨p, 0, none⟩)
  | 5 => qw = .pointer (some ⟨p, 0, none⟩)
  | 6 => qw = .pointer (some ⟨p, 0, none⟩)
  | 7 => qw = .slice (some ⟨r, 0, none⟩) n cap
  | 8 => qw = .int .i64 (i : Int)
  | 9 => qw = .pointer (some ⟨r, i * 2, none⟩)
  | 10 => qw = .pointer (some ⟨r, i * 2, none⟩)
  | 11 => qw = .int .i64 y.id
  | 12 => qw = .pointer (some ⟨p, 0, none⟩)
  | 13 => qw = .pointer (some ⟨p, 0, none⟩)
  | 14 => qw = .pointer (some ⟨p, 1, none⟩)
  | 15 => qw = .map (some c)
  | 16 => qw = .pointer (some ⟨p, 0, none⟩)
  | 17 => qw = .pointer (some ⟨p, 0, none⟩)
  | 18 => qw = .pointer (some ⟨p, 0, none⟩)
  | 19 => qw = .slice (some ⟨r, 0, none⟩) n cap
  | 20 => qw = .int .i64 (j : Int)
  | 21 => qw = .pointer (some ⟨r, j * 2, none⟩)
  | 22 => qw = .pointer (some ⟨r, j * 2, none⟩)
  | 23 => qw = .int .i64 x.id
  | 24 => qw = .int .i64 (i : Int)
  | 25 => qw = .int .i64 (j : Int)
  | 26 => ∃ v0, qw = .tuple #[v0, .int .i64 (s1 : Int)]
  | 27 => qw = .int .i64 (s1 : Int)
  | 29 => ∃ v0, qw = .tuple #[v0, .int .i64 (s2 : Int)]
  | 30 => qw = .int .i64 (s2 : Int)
  | _ => True
set_option maxHeartbeats 16000000 in
set_option maxRecDepth 100000 in
theorem swap_any {w : World} {B p c : Nat} {v : Value} {l : List Tm} {f : Int → Option Int} (h : PV w B p c v l f) (hf : AtOk l f) (i j : Nat) (hi : i < l.length) (hj : j < l.length) :
    Calls Try.prog 145 #[.pointer (some ⟨p, 0, none⟩), .int .i64 (i : Int), .int .i64 (j : Int)] w fun e w' => e = .returned (.tuple #[]) ∧ (∃ f', PV w' B p c v (swp l i j) f' ∧ AtOk (swp l i j) f') ∧ Fr (fun k => v.ownBlock = some k ∨ k = c) w w' := by
  obtain ⟨r, cap, rfl, hn, hc, -, hrl, hcell0⟩ := EK.row_cells h.2.1 hi
  simp only [maxLen] at hc
  obtain ⟨xx, hx⟩ : ∃ x, x = tat l i := ⟨_, rfl⟩
  obtain ⟨yy, hy⟩ : ∃ y, y = tat l j := ⟨_, rfl⟩
  obtain ⟨n, hnn⟩ : ∃ n, n = l.length := ⟨_, rfl⟩
  have hii : (i : Int) < (n : Int) := by omega
  have hji : (j : Int) < (n : Int) := by omega
  rw [← hnn] at h hn ⊢
  have HL := hide (show i < l.length ∧ j < l.length ∧ yy = tat l j ∧ xx = tat l i from ⟨hi, hj, hy, hx⟩)
  have key : ∀ (l' : List Tm) (z : Tm) (k : Nat) (hk : k < l'.length), z = tat l' k → ∀ w' : World, kT.row w' B (.slice (some ⟨r, 0, none⟩) n cap) l' → w'.cell? ⟨r, k * 2, none⟩ = some (.int .i64 z.id) ∧ w'.cell? ⟨r, k * 2 + 1, none⟩ = some (.int .i64 z.at_) := fun l' z k hk hz w' hr => by
    obtain ⟨r', cap', e2, -, -, -, -, hcell⟩ := EK.row_cells hr hk
    cases e2
    rw [hz, tat_eq hk]
    exact ⟨hcell 0 (by decide), hcell 1 (by decide)⟩
  have HC := hide (show (∀ w' : World, PV w' B p c (.slice (some ⟨r, 0, none⟩) n cap) l f → w'.cell? ⟨r, i * 2, none⟩ = some (.int .i64 xx.id) ∧ w'.cell? ⟨r, i * 2 + 1, none⟩ = some (.int .i64 xx.at_)) ∧ (∀ w' : World, PV w' B p c (.slice (some ⟨r, 0, none⟩) n cap) l f → w'.cell? ⟨r, j * 2, none⟩ = some (.int .i64 yy.id) ∧ w'.cell? ⟨r, j * 2 + 1, none⟩ = some (.int .i64 yy.at_)) from
    ⟨fun w' hp => key l xx i hi hx w' hp.2.1, fun w' hp => key l yy j hj hy w' hp.2.1⟩)
  have HK := hide (show (∀ w' : World, kT.row w' B (.slice (some ⟨r, 0, none⟩) n cap) (swp l i j) → w'.cell? ⟨r, i * 2, none⟩ = some (.int .i64 yy.id)) ∧ (∀ w' : World, kT.row w' B (.slice (some ⟨r, 0, none⟩) n cap) (swp l i j) → w'.cell? ⟨r, j * 2, none⟩ = some (.int .i64 xx.id)) from
    ⟨fun w' hr => (key (swp l i j) yy i (by rw [swp_len]; exact hi) (by rw [swp_at hi hj, hy]; split; rename_i e; rw [e]; rw [if_pos rfl]) w' hr).1, fun w' hr => (key (swp l i j) xx j (by rw [swp_len]; exact hj) (by rw [swp_at hi hj, if_pos rfl, hx]) w' hr).1⟩)
  have HPV := hide h
  have HF := hide hf
  clear h hf hx hy hcell0 key hi hj hrl hnn
  go_enter Try.func145, Try.ntmps145
  go_wp2_with fail
  refine wp_region_c (swA p i j) (fun j => #[6, 7, 8, 9, 10, 11, 12, 13, 14, 15, 16, 17, 18, 19, 20, 21, 22, 23, 24, 25, 26, 27, 28, 29, 30, 0, 31, 0].getD j 0) (fun d x w' => SwS w B p c r n cap l f i j (d 25) (d 27) w') (fun qi qv => swV p r n cap i j xx yy qi qv) (by kernel_rfl) (by kernel_rfl) rfl ⟨by rw [if_neg (by decide), if_neg (by decide)]; exact HPV.out, (Fr.refl _ _).drew⟩ ?_ ?_ ?_
  · exact fun u => ⟨fun x v => rfl, fun x v => rfl, fun x v => rfl, fun x v => rfl, fun x v => rfl, fun x v => rfl, fun x v => rfl, fun x v => rfl, fun x v => rfl, fun x v => rfl, fun x v => rfl, fun x v => rfl, fun x v => rfl, fun x v => rfl, fun x v => rfl, fun x v => rfl, fun x v => rfl, fun x v => rfl, fun x v => rfl, fun x v => rfl, fun x v => rfl, fun x v => rfl, fun x v => rfl, fun x v => rfl, fun x v => rfl, fun x v => rfl, fun x v => rfl, fun x v => rfl, trivial⟩
  · refine fun u => ⟨?_, ?_, ?_, ?_, ?_, ?_, ?_, ?_, ?_, ?_, ?_, ?_, ?_, ?_, ?_, ?_, ?_, ?_, ?_, ?_, ?_, ?_, ?_, ?_, ?_, ?_, ?_, ?_, trivial⟩
    · intro d x w' hS hdi hv hp hcl K hK
      have hS1 : SwS w B p c r n cap l f i j (d 25) (d 27) w' := hS
      refine ⟨rfl, ?_⟩
      unfold swA at hK ⊢
      go_wp2
      exact hK (.pointer (some ⟨p, 0, none⟩)) w' hS rfl
    · intro d x w' hS hdi hv hp hcl K hK
      have d0 : x 0 = .pointer (some ⟨p, 0, none⟩) := hv 0 (hp 0 (by kernel_rfl))
      have hS1 : SwS w B p c r n cap l f i j (d 25) (d 27) w' := hS
      refine ⟨rfl, ?_⟩
      unfold swA at hK ⊢
      simp only [d0] at hK ⊢
      go_wp2
      exact hK (.pointer (some ⟨p, 0, none⟩)) w' hS rfl
    · intro d x w' hS hdi hv hp hcl K hK
      have d0 : x 1 = .pointer (some ⟨p, 0, none⟩) := hv 1 (hp 1 (by kernel_rfl))
      have hS1 : SwS w B p c r n cap l f i j (d 25) (d 27) w' := hS
      refine ⟨rfl, ?_⟩
      unfold swA at hK ⊢
      simp only [d0] at hK ⊢
      go_wp2
      exact hK (.pointer (some ⟨p, 0, none⟩)) w' hS rfl
    · intro d x w' hS hdi hv hp hcl K hK
      have d0 : x 2 = .pointer (some ⟨p, 0, none⟩) := hv 2 (hp 2 (by kernel_rfl))
      have hS1 : SwS w B p c r n cap l f i j (d 25) (d 27) w' := hS
      have z0 := obj_cell hS1.pv.1 0
      simp only [List.getElem?_toArray, List.getElem?_cons_zero] at z0
      refine ⟨rfl, ?_⟩
      unfold swA at hK ⊢
      simp only [d0] at hK ⊢
      go_wp2
      exact hK (.slice (some ⟨r, 0, none⟩) n cap) w' hS rfl
    · intro d x w' hS hdi hv hp hcl K hK
      have hS1 : SwS w B p c r n cap l f i j (d 25) (d 27) w' := hS
      refine ⟨rfl, ?_⟩
      unfold swA at hK ⊢
      go_wp2
      exact hK (.int .i64 (i : Int)) w' hS rfl
    · intro d x w' hS hdi hv hp hcl K hK
      have hS1 : SwS w B p c r n cap l f i j (d 25) (d 27) w' := hS
      refine ⟨rfl, ?_⟩
      unfold swA at hK ⊢
      go_wp2
      exact hK (.pointer (some ⟨p, 0, none⟩)) w' hS rfl
    · intro d x w' hS hdi hv hp hcl K hK
      have d0 : x 5 = .pointer (some ⟨p, 0, none⟩) := hv 5 (hp 5 (by kernel_rfl))
      have hS1 : SwS w B p c r n cap l f i j (d 25) (d 27) w' := hS
      refine ⟨rfl, ?_⟩
      unfold swA at hK ⊢
      simp only [d0] at hK ⊢
      go_wp2
      exact hK (.pointer (some ⟨p, 0, none⟩)) w' hS rfl
    · intro d x w' hS hdi hv hp hcl K hK
      have d0 : x 6 = .pointer (some ⟨p, 0, none⟩) := hv 6 (hp 6 (by kernel_rfl))
      have hS1 : SwS w B p c r n cap l f i j (d 25) (d 27) w' := hS
      refine ⟨rfl, ?_⟩
      unfold swA at hK ⊢
      simp only [d0] at hK ⊢
      go_wp2
      exact hK (.pointer (some ⟨p, 0, none⟩)) w' hS rfl
    · intro d x w' hS hdi hv hp hcl K hK
      have d0 : x 7 = .pointer (some ⟨p, 0, none⟩) := hv 7 (hp 7 (by kernel_rfl))
      have hS1 : SwS w B p c r n cap l f i j (d 25) (d 27) w' := hS
      have z0 := obj_cell hS1.pv.1 0
      simp only [List.getElem?_toArray, List.getElem?_cons_zero] at z0
      refine ⟨rfl, ?_⟩
      unfold swA at hK ⊢
      simp only [d0] at hK ⊢
      go_wp2
      exact hK (.slice (some ⟨r, 0, none⟩) n cap) w' hS rfl
    · intro d x w' hS hdi hv hp hcl K hK
      have hS1 : SwS w B p c r n cap l f i j (d 25) (d 27) w' := hS
      refine ⟨rfl, ?_⟩
      unfold swA at hK ⊢
      go_wp2
      exact hK (.int .i64 (j : Int)) w' hS rfl
    · intro d x w' hS hdi hv hp hcl K hK
      have hS1 : SwS w B p c r n cap l f i j (d 25) (d 27) w' := hS
      refine ⟨rfl, ?_⟩
      unfold swA at hK ⊢
      go_wp2
      exact hK (.pointer (some ⟨p, 0, none⟩)) w' hS rfl
    · intro d x w' hS hdi hv hp hcl K hK
      have d0 : x 10 = .pointer (some ⟨p, 0, none⟩) := hv 10 (hp 10 (by kernel_rfl))
      have hS1 : SwS w B p c r n cap l f i j (d 25) (d 27) w' := hS
      refine ⟨rfl, ?_⟩
      unfold swA at hK ⊢
      simp only [d0] at hK ⊢
      go_wp2
      exact hK (.pointer (some ⟨p, 0, none⟩)) w' hS rfl
    · intro d x w' hS hdi hv hp hcl K hK
      have d0 : x 11 = .pointer (some ⟨p, 0, none⟩) := hv 11 (hp 11 (by kernel_rfl))
      have hS1 : SwS w B p c r n cap l f i j (d 25) (d 27) w' := hS
      refine ⟨rfl, ?_⟩
      unfold swA at hK ⊢
      simp only [d0] at hK ⊢
      go_wp2
      exact hK (.pointer (some ⟨p, 0, none⟩)) w' hS rfl
    · intro d x w' hS hdi hv hp hcl K hK
      have d0 : x 12 = .pointer (some ⟨p, 0, none⟩) := hv 12 (hp 12 (by kernel_rfl))
      have hS1 : SwS w B p c r n cap l f i j (d 25) (d 27) w' := hS
      have z0 := obj_cell hS1.pv.1 0
      simp only [List.getElem?_toArray, List.getElem?_cons_zero] at z0
      refine ⟨rfl, ?_⟩
      unfold swA at hK ⊢
      simp only [d0] at hK ⊢
      go_wp2
      exact hK (.slice (some ⟨r, 0, none⟩) n cap) w' hS rfl
    · intro d x w' hS hdi hv hp hcl K hK
      have hS1 : SwS w B p c r n cap l f i j (d 25) (d 27) w' := hS
      refine ⟨rfl, ?_⟩
      unfold swA at hK ⊢
      go_wp2
      exact hK (.int .i64 (j : Int)) w' hS rfl
    · intro d x w' hS hdi hv hp hcl K hK
      have d0 : x 13 = .slice (some ⟨r, 0, none⟩) n cap := hv 13 (hp 13 (by kernel_rfl))
      have d1 : x 14 = .int .i64 (j : Int) := hv 14 (hp 14 (by kernel_rfl))
      have hS1 : SwS w B p c r n cap l f i j (d 25) (d 27) w' := hS
      refine ⟨rfl, ?_⟩
      unfold swA at hK ⊢
      simp only [d0, d1] at hK ⊢
      go_wp2
      exact hK (.pointer (some ⟨r, j * 2, none⟩)) w' hS rfl
    · intro d x w' hS hdi hv hp hcl K hK
      have d0 : x 15 = .pointer (some ⟨r, j * 2, none⟩) := hv 15 (hp 15 (by kernel_rfl))
      have hS1 : SwS w B p c r n cap l f i j (d 25) (d 27) w' := hS
      have n25 : ¬ d 25 = true := fun e => by have := hcl 25 16 e (by kernel_rfl); rw [hdi] at this; cases this
      have n27 : ¬ d 27 = true := fun e => by have := hcl 27 16 e (by kernel_rfl); rw [hdi] at this; cases this
      have hpv := hS1.pv
      rw [if_neg n27, if_neg n25] at hpv
      have q0 := HC.out.2 w' hpv
      obtain ⟨q0, q1⟩ := q0
      clear hpv n25 n27
      refine ⟨rfl, ?_⟩
      unfold swA at hK ⊢
      simp only [d0] at hK ⊢
      go_wp2
      exact hK (.agg #[.int .i64 yy.id, .int .i64 yy.at_]) w' hS rfl
    · intro d x w' hS hdi hv hp hcl K hK
      have hS1 : SwS w B p c r n cap l f i j (d 25) (d 27) w' := hS
      refine ⟨rfl, ?_⟩
      unfold swA at hK ⊢
      go_wp2
      exact hK (.pointer (some ⟨p, 0, none⟩)) w' hS rfl
    · intro d x w' hS hdi hv hp hcl K hK
      have d0 : x 17 = .pointer (some ⟨p, 0, none⟩) := hv 17 (hp 17 (by kernel_rfl))
      have hS1 : SwS w B p c r n cap l f i j (d 25) (d 27) w' := hS
      refine ⟨rfl, ?_⟩
      unfold swA at hK ⊢
      simp only [d0] at hK ⊢
      go_wp2
      exact hK (.pointer (some ⟨p, 0, none⟩)) w' hS rfl
    · intro d x w' hS hdi hv hp hcl K hK
      have d0 : x 18 = .pointer (some ⟨p, 0, none⟩) := hv 18 (hp 18 (by kernel_rfl))
      have hS1 : SwS w B p c r n cap l f i j (d 25) (d 27) w' := hS
      refine ⟨rfl, ?_⟩
      unfold swA at hK ⊢
      simp only [d0] at hK ⊢
      go_wp2
      exact hK (.pointer (some ⟨p, 0, none⟩)) w' hS rfl
    · intro d x w' hS hdi hv hp hcl K hK
      have d0 : x 19 = .pointer (some ⟨p, 0, none⟩) := hv 19 (hp 19 (by kernel_rfl))
      have hS1 : SwS w B p c r n cap l f i j (d 25) (d 27) w' := hS
      have z0 := obj_cell hS1.pv.1 0
      simp only [List.getElem?_toArray, List.getElem?_cons_zero] at z0
      refine ⟨rfl, ?_⟩
      unfold swA at hK ⊢
      simp only [d0] at hK ⊢
      go_wp2
      exact hK (.slice (some ⟨r, 0, none⟩) n cap) w' hS rfl
    · intro d x w' hS hdi hv hp hcl K hK
      have hS1 : SwS w B p c r n cap l f i j (d 25) (d 27) w' := hS
      refine ⟨rfl, ?_⟩
      unfold swA at hK ⊢
      go_wp2
      exact hK (.int .i64 (i : Int)) w' hS rfl
    · intro d x w' hS hdi hv hp hcl K hK
      have d0 : x 20 = .slice (some ⟨r, 0, none⟩) n cap := hv 20 (hp 20 (by kernel_rfl))
      have d1 : x 21 = .int .i64 (i : Int) := hv 21 (hp 21 (by kernel_rfl))
      have hS1 : SwS w B p c r n cap l f i j (d 25) (d 27) w' := hS
      refine ⟨rfl, ?_⟩
      unfold swA at hK ⊢
      simp only [d0, d1] at hK ⊢
      go_wp2
      exact hK (.pointer (some ⟨r, i * 2, none⟩)) w' hS rfl
    · intro d x w' hS hdi hv hp hcl K hK
      have d0 : x 22 = .pointer (some ⟨r, i * 2, none⟩) := hv 22 (hp 22 (by kernel_rfl))
      have hS1 : SwS w B p c r n cap l f i j (d 25) (d 27) w' := hS
      have n25 : ¬ d 25 = true := fun e => by have := hcl 25 23 e (by kernel_rfl); rw [hdi] at this; cases this
      have n27 : ¬ d 27 = true := fun e => by have := hcl 27 23 e (by kernel_rfl); rw [hdi] at this; cases this
      have hpv := hS1.pv
      rw [if_neg n27, if_neg n25] at hpv
      have q0 := HC.out.1 w' hpv
      obtain ⟨q0, q1⟩ := q0
      clear hpv n25 n27
      refine ⟨rfl, ?_⟩
      unfold swA at hK ⊢
      simp only [d0] at hK ⊢
      go_wp2
      exact hK (.agg #[.int .i64 xx.id, .int .i64 xx.at_]) w' hS rfl
    · intro d x w' hS hdi hv hp hcl K hK
      have d0 : x 3 = .slice (some ⟨r, 0, none⟩) n cap := hv 3 (hp 3 (by kernel_rfl))
      have d1 : x 4 = .int .i64 (i : Int) := hv 4 (hp 4 (by kernel_rfl))
      have hS1 : SwS w B p c r n cap l f i j (d 25) (d 27) w' := hS
      refine ⟨rfl, ?_⟩
      unfold swA at hK ⊢
      simp only [d0, d1] at hK ⊢
      go_wp2
      exact hK (.pointer (some ⟨r, i * 2, none⟩)) w' hS rfl
    · intro d x w' hS hdi hv hp hcl K hK
      have d0 : x 24 = .pointer (some ⟨r, i * 2, none⟩) := hv 24 (hp 24 (by kernel_rfl))
      have d1 : x 16 = .agg #[.int .i64 yy.id, .int .i64 yy.at_] := hv 16 (hp 16 (by kernel_rfl))
      have hS1 : SwS w B p c r n cap l f i j (d 25) (d 27) w' := hS
      have n27 : ¬ d 27 = true := fun e => by have := hcl 27 25 e (by kernel_rfl); rw [hdi] at this; cases this
      obtain ⟨hst, hS2⟩ := hS1.one HL.out.1 HL.out.2.1 hdi (by simpa using n27) yy HL.out.2.2.1
      refine ⟨rfl, ?_⟩
      unfold swA at hK ⊢
      simp only [d0, d1] at hK ⊢
      exact wp_storev' 153 (.tmp 30) (.tmp 22) rfl rfl rfl hst (hK undef _ (show SwS w B p c r n cap l f i j true (d 27) _ from hS2) trivial)
    · intro d x w' hS hdi hv hp hcl K hK
      have d0 : x 8 = .slice (some ⟨r, 0, none⟩) n cap := hv 8 (hp 8 (by kernel_rfl))
      have d1 : x 9 = .int .i64 (j : Int) := hv 9 (hp 9 (by kernel_rfl))
      have hS1 : SwS w B p c r n cap l f i j (d 25) (d 27) w' := hS
      refine ⟨rfl, ?_⟩
      unfold swA at hK ⊢
      simp only [d0, d1] at hK ⊢
      go_wp2
      exact hK (.pointer (some ⟨r, j * 2, none⟩)) w' hS rfl
    · intro d x w' hS hdi hv hp hcl K hK
      have d0 : x 26 = .pointer (some ⟨r, j * 2, none⟩) := hv 26 (hp 26 (by kernel_rfl))
      have d1 : x 23 = .agg #[.int .i64 xx.id, .int .i64 xx.at_] := hv 23 (hp 23 (by kernel_rfl))
      have hS1 : SwS w B p c r n cap l f i j (d 25) (d 27) w' := hS
      have y25 : d 25 = true := hp 25 (by kernel_rfl)
      obtain ⟨hst, hS2⟩ := hS1.two HL.out.1 HL.out.2.1 y25 hdi xx HL.out.2.2.2
      refine ⟨rfl, ?_⟩
      unfold swA at hK ⊢
      simp only [d0, d1] at hK ⊢
      exact wp_storev' 153 (.tmp 31) (.tmp 29) rfl rfl rfl hst (hK undef _ (show SwS w B p c r n cap l f i j (d 25) true _ from hS2) trivial)
  · intro u hu d x w3 hS hd hv
    have hS1 : SwS w B p c r n cap l f i j (d 25) (d 27) w3 := hS
    rw [hd 25 (by decide), hd 27 (by decide)] at hS1
    have hpv3 := hS1.pv
    rw [if_pos rfl] at hpv3
    have HFR := hide hS1.fr
    have hne := hpv3.vne (q := r) rfl
    obtain ⟨s1, s2, hmps⟩ := MK.mps_start (K := kA) hpv3.2.2 (k1 := yy.id) (k2 := xx.id) (by rw [HL.out.2.2.1, (HF.out _ _).2 ⟨j, HL.out.2.1, rfl, rfl⟩]; rfl) (by rw [HL.out.2.2.2, (HF.out _ _).2 ⟨i, HL.out.1, rfl, rfl⟩]; rfl)
    have HS2 := hide (show SwM w3 B p c r n cap (swp l i j) f yy.id xx.id s1 s2 i j false false w3.drew from ⟨hpv3.1, hpv3.2.1, by rw [if_neg (by decide), if_neg (by decide)]; exact hmps, (Fr.refl _ _).drew, hpv3.pc, hne.2⟩)
    clear hS hS1 hd hv hu hpv3 hmps
    unfold swA
    go_wp2_with fail
    refine wp_region_c (swB p i j) (fun j => #[32, 33, 34, 35, 36, 37, 38, 39, 40, 41, 42, 43, 44, 45, 46, 47, 48, 49, 50, 51, 52, 53, 54, 55, 56, 57, 58, 59, 0, 60, 61, 0].getD j 0) (fun d x w' => SwM w3 B p c r n cap (swp l i j) f yy.id xx.id s1 s2 i j (d 28) (d 31) w') (fun qi qv => swW p c r n cap i j s1 s2 xx yy qi qv) (by kernel_rfl) (by kernel_rfl) rfl HS2.out ?_ ?_ ?_
    · exact fun u => ⟨fun x v => rfl, fun x v => rfl, fun x v => rfl, fun x v => rfl, fun x v => rfl, fun x v => rfl, fun x v => rfl, fun x v => rfl, fun x v => rfl, fun x v => rfl, fun x v => rfl, fun x v => rfl, fun x v => rfl, fun x v => rfl, fun x v => rfl, fun x v => rfl, fun x v => rfl, fun x v => rfl, fun x v => rfl, fun x v => rfl, fun x v => rfl, fun x v => rfl, fun x v => rfl, fun x v => rfl, fun x v => rfl, fun x v => rfl, fun x v => rfl, fun x v => rfl, fun x v => rfl, fun x v => rfl, fun x v => rfl, fun x v => rfl, trivial⟩
    · refine fun u => ⟨?_, ?_, ?_, ?_, ?_, ?_, ?_, ?_, ?_, ?_, ?_, ?_, ?_, ?_, ?_, ?_, ?_, ?_, ?_, ?_, ?_, ?_, ?_, ?_, ?_, ?_, ?_, ?_, ?_, ?_, ?_, ?_, trivial⟩
      · intro d x w' hS hdi hv hp hcl K hK
        have hS1 : SwM w3 B p c r n cap (swp l i j) f yy.id xx.id s1 s2 i j (d 28) (d 31) w' := hS
        refine ⟨rfl, ?_⟩
        unfold swB at hK ⊢
        go_wp2
        exact hK (.pointer (some ⟨p, 0, none⟩)) w' hS rfl
      · intro d x w' hS hdi hv hp hcl K hK
        have d0 : x 0 = .pointer (some ⟨p, 0, none⟩) := hv 0 (hp 0 (by kernel_rfl))
        have hS1 : SwM w3 B p c r n cap (swp l i j) f yy.id xx.id s1 s2 i j (d 28) (d 31) w' := hS
        refine ⟨rfl, ?_⟩
        unfold swB at hK ⊢
        simp only [d0] at hK ⊢
        go_wp2
        exact hK (.pointer (some ⟨p, 0, none⟩)) w' hS rfl
      · intro d x w' hS hdi hv hp hcl K hK
        have d0 : x 1 = .pointer (some ⟨p, 0, none⟩) := hv 1 (hp 1 (by kernel_rfl))
        have hS1 : SwM w3 B p c r n cap (swp l i j) f yy.id xx.id s1 s2 i j (d 28) (d 31) w' := hS
        refine ⟨rfl, ?_⟩
        unfold swB at hK ⊢
        simp only [d0] at hK ⊢
        go_wp2
        exact hK (.pointer (some ⟨p, 1, none⟩)) w' hS rfl
      · intro d x w' hS hdi hv hp hcl K hK
        have d0 : x 2 = .pointer (some ⟨p, 1, none⟩) := hv 2 (hp 2 (by kernel_rfl))
        have hS1 : SwM w3 B p c r n cap (swp l i j) f yy.id xx.id s1 s2 i j (d 28) (d 31) w' := hS
        have z0 := obj_cell hS1.o 0
        have z1 := obj_cell hS1.o 1
        simp only [List.getElem?_toArray, List.getElem?_cons_zero, List.getElem?_cons_succ] at z0 z1
        refine ⟨rfl, ?_⟩
        unfold swB at hK ⊢
        simp only [d0] at hK ⊢
        go_wp2
        exact hK (.map (some c)) w' hS rfl
      · intro d x w' hS hdi hv hp hcl K hK
        have hS1 : SwM w3 B p c r n cap (swp l i j) f yy.id xx.id s1 s2 i j (d 28) (d 31) w' := hS
        refine ⟨rfl, ?_⟩
        unfold swB at hK ⊢
        go_wp2
        exact hK (.pointer (some ⟨p, 0, none⟩)) w' hS rfl
      · intro d x w' hS hdi hv hp hcl K hK
        have d0 : x 4 = .pointer (some ⟨p, 0, none⟩) := hv 4 (hp 4 (by kernel_rfl))
        have hS1 : SwM w3 B p c r n cap (swp l i j) f yy.id xx.id s1 s2 i j (d 28) (d 31) w' := hS
        refine ⟨rfl, ?_⟩
        unfold swB at hK ⊢
        simp only [d0] at hK ⊢
        go_wp2
        exact hK (.pointer (some ⟨p, 0, none⟩)) w' hS rfl
      · intro d x w' hS hdi hv hp hcl K hK
        have d0 : x 5 = .pointer (some ⟨p, 0, none⟩) := hv 5 (hp 5 (by kernel_rfl))
        have hS1 : SwM w3 B p c r n cap (swp l i j) f yy.id xx.id s1 s2 i j (d 28) (d 31) w' := hS
        refine ⟨rfl, ?_⟩
        unfold swB at hK ⊢
        simp only [d0] at hK ⊢
        go_wp2
        exact hK (.pointer (some ⟨p, 0, none⟩)) w' hS rfl
      · intro d x w' hS hdi hv hp hcl K hK
        have d0 : x 6 = .pointer (some ⟨p, 0, none⟩) := hv 6 (hp 6 (by kernel_rfl))
        have hS1 : SwM w3 B p c r n cap (swp l i j) f yy.id xx.id s1 s2 i j (d 28) (d 31) w' := hS
        have z0 := obj_cell hS1.o 0
        have z1 := obj_cell hS1.o 1
        simp only [List.getElem?_toArray, List.getElem?_cons_zero, List.getElem?_cons_succ] at z0 z1
        refine ⟨rfl, ?_⟩
        unfold swB at hK ⊢
        simp only [d0] at hK ⊢
        go_wp2
        exact hK (.slice (some ⟨r, 0, none⟩) n cap) w' hS rfl
      · intro d x w' hS hdi hv hp hcl K hK
        have hS1 : SwM w3 B p c r n cap (swp l i j) f yy.id xx.id s1 s2 i j (d 28) (d 31) w' := hS
        refine ⟨rfl, ?_⟩
        unfold swB at hK ⊢
        go_wp2
        exact hK (.int .i64 (i : Int)) w' hS rfl
      · intro d x w' hS hdi hv hp hcl K hK
        have d0 : x 7 = .slice (some ⟨r, 0, none⟩) n cap := hv 7 (hp 7 (by kernel_rfl))
        have d1 : x 8 = .int .i64 (i : Int) := hv 8 (hp 8 (by kernel_rfl))
        have hS1 : SwM w3 B p c r n cap (swp l i j) f yy.id xx.id s1 s2 i j (d 28) (d 31) w' := hS
        refine ⟨rfl, ?_⟩
        unfold swB at hK ⊢
        simp only [d0, d1] at hK ⊢
        go_wp2
        exact hK (.pointer (some ⟨r, i * 2, none⟩)) w' hS rfl
      · intro d x w' hS hdi hv hp hcl K hK
        have d0 : x 9 = .pointer (some ⟨r, i * 2, none⟩) := hv 9 (hp 9 (by kernel_rfl))
        have hS1 : SwM w3 B p c r n cap (swp l i j) f yy.id xx.id s1 s2 i j (d 28) (d 31) w' := hS
        refine ⟨rfl, ?_⟩
        unfold swB at hK ⊢
        simp only [d0] at hK ⊢
        go_wp2
        exact hK (.pointer (some ⟨r, i * 2, none⟩)) w' hS rfl
      · intro d x w' hS hdi hv hp hcl K hK
        have d0 : x 10 = .pointer (some ⟨r, i * 2, none⟩) := hv 10 (hp 10 (by kernel_rfl))
        have hS1 : SwM w3 B p c r n cap (swp l i j) f yy.id xx.id s1 s2 i j (d 28) (d 31) w' := hS
        have q0 := HK.out.1 w' hS1.row
        refine ⟨rfl, ?_⟩
        unfold swB at hK ⊢
        simp only [d0] at hK ⊢
        go_wp2
        exact hK (.int .i64 yy.id) w' hS rfl
      · intro d x w' hS hdi hv hp hcl K hK
        have hS1 : SwM w3 B p c r n cap (swp l i j) f yy.id xx.id s1 s2 i j (d 28) (d 31) w' := hS
        refine ⟨rfl, ?_⟩
        unfold swB at hK ⊢
        go_wp2
        exact hK (.pointer (some ⟨p, 0, none⟩)) w' hS rfl
      · intro d x w' hS hdi hv hp hcl K hK
        have d0 : x 12 = .pointer (some ⟨p, 0, none⟩) := hv 12 (hp 12 (by kernel_rfl))
        have hS1 : SwM w3 B p c r n cap (swp l i j) f yy.id xx.id s1 s2 i j (d 28) (d 31) w' := hS
        refine ⟨rfl, ?_⟩
        unfold swB at hK ⊢
        simp only [d0] at hK ⊢
        go_wp2
        exact hK (.pointer (some ⟨p, 0, none⟩)) w' hS rfl
      · intro d x w' hS hdi hv hp hcl K hK
        have d0 : x 13 = .pointer (some ⟨p, 0, none⟩) := hv 13 (hp 13 (by kernel_rfl))
        have hS1 : SwM w3 B p c r n cap (swp l i j) f yy.id xx.id s1 s2 i j (d 28) (d 31) w' := hS
        refine ⟨rfl, ?_⟩
        unfold swB at hK ⊢
        simp only [d0] at hK ⊢
        go_wp2
        exact hK (.pointer (some ⟨p, 1, none⟩)) w' hS rfl
      · intro d x w' hS hdi hv hp hcl K hK
        have d0 : x 14 = .pointer (some ⟨p, 1, none⟩) := hv 14 (hp 14 (by kernel_rfl))
        have hS1 : SwM w3 B p c r n cap (swp l i j) f yy.id xx.id s1 s2 i j (d 28) (d 31) w' := hS
        have z0 := obj_cell hS1.o 0
        have z1 := obj_cell hS1.o 1
        simp only [List.getElem?_toArray, List.getElem?_cons_zero, List.getElem?_cons_succ] at z0 z1
        refine ⟨rfl, ?_⟩
        unfold swB at hK ⊢
        simp only [d0] at hK ⊢
        go_wp2
        exact hK (.map (some c)) w' hS rfl
      · intro d x w' hS hdi hv hp hcl K hK
        have hS1 : SwM w3 B p c r n cap (swp l i j) f yy.id xx.id s1 s2 i j (d 28) (d 31) w' := hS
        refine ⟨rfl, ?_⟩
        unfold swB at hK ⊢
        go_wp2
        exact hK (.pointer (some ⟨p, 0, none⟩)) w' hS rfl
      · intro d x w' hS hdi hv hp hcl K hK
        have d0 : x 16 = .pointer (some ⟨p, 0, none⟩) := hv 16 (hp 16 (by kernel_rfl))
        have hS1 : SwM w3 B p c r n cap (swp l i j) f yy.id xx.id s1 s2 i j (d 28) (d 31) w' := hS
        refine ⟨rfl, ?_⟩
        unfold swB at hK ⊢
        simp only [d0] at hK ⊢
        go_wp2
        exact hK (.pointer (some ⟨p, 0, none⟩)) w' hS rfl
      · intro d x w' hS hdi hv hp hcl K hK
        have d0 : x 17 = .pointer (some ⟨p, 0, none⟩) := hv 17 (hp 17 (by kernel_rfl))
        have hS1 : SwM w3 B p c r n cap (swp l i j) f yy.id xx.id s1 s2 i j (d 28) (d 31) w' := hS
        refine ⟨rfl, ?_⟩
        unfold swB at hK ⊢
        simp only [d0] at hK ⊢
        go_wp2
        exact hK (.pointer (some ⟨p, 0, none⟩)) w' hS rfl
      · intro d x w' hS hdi hv hp hcl K hK
        have d0 : x 18 = .pointer (some ⟨p, 0, none⟩) := hv 18 (hp 18 (by kernel_rfl))
        have hS1 : SwM w3 B p c r n cap (swp l i j) f yy.id xx.id s1 s2 i j (d 28) (d 31) w' := hS
        have z0 := obj_cell hS1.o 0
        have z1 := obj_cell hS1.o 1
        simp only [List.getElem?_toArray, List.getElem?_cons_zero, List.getElem?_cons_succ] at z0 z1
        refine ⟨rfl, ?_⟩
        unfold swB at hK ⊢
        simp only [d0] at hK ⊢
        go_wp2
        exact hK (.slice (some ⟨r, 0, none⟩) n cap) w' hS rfl
      · intro d x w' hS hdi hv hp hcl K hK
        have hS1 : SwM w3 B p c r n cap (swp l i j) f yy.id xx.id s1 s2 i j (d 28) (d 31) w' := hS
        refine ⟨rfl, ?_⟩
        unfold swB at hK ⊢
        go_wp2
        exact hK (.int .i64 (j : Int)) w' hS rfl
      · intro d x w' hS hdi hv hp hcl K hK
        have d0 : x 19 = .slice (some ⟨r, 0, none⟩) n cap := hv 19 (hp 19 (by kernel_rfl))
        have d1 : x 20 = .int .i64 (j : Int) := hv 20 (hp 20 (by kernel_rfl))
        have hS1 : SwM w3 B p c r n cap (swp l i j) f yy.id xx.id s1 s2 i j (d 28) (d 31) w' := hS
        refine ⟨rfl, ?_⟩
        unfold swB at hK ⊢
        simp only [d0, d1] at hK ⊢
        go_wp2
        exact hK (.pointer (some ⟨r, j * 2, none⟩)) w' hS rfl
      · intro d x w' hS hdi hv hp hcl K hK
        have d0 : x 21 = .pointer (some ⟨r, j * 2, none⟩) := hv 21 (hp 21 (by kernel_rfl))
        have hS1 : SwM w3 B p c r n cap (swp l i j) f yy.id xx.id s1 s2 i j (d 28) (d 31) w' := hS
        refine ⟨rfl, ?_⟩
        unfold swB at hK ⊢
        simp only [d0] at hK ⊢
        go_wp2
        exact hK (.pointer (some ⟨r, j * 2, none⟩)) w' hS rfl
      · intro d x w' hS hdi hv hp hcl K hK
        have d0 : x 22 = .pointer (some ⟨r, j * 2, none⟩) := hv 22 (hp 22 (by kernel_rfl))
        have hS1 : SwM w3 B p c r n cap (swp l i j) f yy.id xx.id s1 s2 i j (d 28) (d 31) w' := hS
        have q0 := HK.out.2 w' hS1.row
        refine ⟨rfl, ?_⟩
        unfold swB at hK ⊢
        simp only [d0] at hK ⊢
        go_wp2
        exact hK (.int .i64 xx.id) w' hS rfl
      · intro d x w' hS hdi hv hp hcl K hK
        have hS1 : SwM w3 B p c r n cap (swp l i j) f yy.id xx.id s1 s2 i j (d 28) (d 31) w' := hS
        refine ⟨rfl, ?_⟩
        unfold swB at hK ⊢
        go_wp2
        exact hK (.int .i64 (i : Int)) w' hS rfl
      · intro d x w' hS hdi hv hp hcl K hK
        have hS1 : SwM w3 B p c r n cap (swp l i j) f yy.id xx.id s1 s2 i j (d 28) (d 31) w' := hS
        refine ⟨rfl, ?_⟩
        unfold swB at hK ⊢
        go_wp2
        exact hK (.int .i64 (j : Int)) w' hS rfl
      · intro d x w' hS hdi hv hp hcl K hK
        have d0 : x 3 = .map (some c) := hv 3 (hp 3 (by kernel_rfl))
        have d1 : x 11 = .int .i64 yy.id := hv 11 (hp 11 (by kernel_rfl))
        have hS1 : SwM w3 B p c r n cap (swp l i j) f yy.id xx.id s1 s2 i j (d 28) (d 31) w' := hS
        obtain ⟨v0, hrun⟩ := MK.run_ent (K := kA) hS1.mp (k := yy.id) (st := s1) (by simp)
        refine ⟨rfl, ?_⟩
        unfold swB at hK ⊢
        simp only [d0, d1] at hK ⊢
        exact wp_ment 142 (.tmp 35) (.tmp 43) rfl rfl rfl hrun (hK _ _ (show SwM w3 B p c r n cap (swp l i j) f yy.id xx.id s1 s2 i j (d 28) (d 31) w' from hS1) ⟨v0, rfl⟩)
      · intro d x w' hS hdi hv hp hcl K hK
        have hS1 : SwM w3 B p c r n cap (swp l i j) f yy.id xx.id s1 s2 i j (d 28) (d 31) w' := hS
        obtain ⟨v0, e26⟩ : ∃ v0, x 26 = .tuple #[v0, .int .i64 (s1 : Int)] := hv 26 (hp 26 (by kernel_rfl))
        refine ⟨rfl, ?_⟩
        unfold swB at hK ⊢
        simp only [e26] at hK ⊢
        go_wp2
        exact hK _ w' (show SwM w3 B p c r n cap (swp l i j) f yy.id xx.id s1 s2 i j (d 28) (d 31) w' from hS1) rfl
      · intro d x w' hS hdi hv hp hcl K hK
        have d0 : x 3 = .map (some c) := hv 3 (hp 3 (by kernel_rfl))
        have d1 : x 27 = .int .i64 (s1 : Int) := hv 27 (hp 27 (by kernel_rfl))
        have d2 : x 24 = .int .i64 (i : Int) := hv 24 (hp 24 (by kernel_rfl))
        have hS1 : SwM w3 B p c r n cap (swp l i j) f yy.id xx.id s1 s2 i j (d 28) (d 31) w' := hS
        have n31 : ¬ d 31 = true := fun e => by have := hcl 31 28 e (by kernel_rfl); rw [hdi] at this; cases this
        obtain ⟨w4, hrun, hS2⟩ := hS1.one hdi (by simpa using n31)
        refine ⟨rfl, ?_⟩
        unfold swB at hK ⊢
        simp only [d0, d1, d2] at hK ⊢
        exact wp_esto 142 (.tmp 35) (.tmp 59) (.tmp 56) rfl rfl rfl rfl hrun (hK undef _ (show SwM w3 B p c r n cap (swp l i j) f yy.id xx.id s1 s2 i j true (d 31) _ from hS2) trivial)
      · intro d x w' hS hdi hv hp hcl K hK
        have d0 : x 15 = .map (some c) := hv 15 (hp 15 (by kernel_rfl))
        have d1 : x 23 = .int .i64 xx.id := hv 23 (hp 23 (by kernel_rfl))
        have hS1 : SwM w3 B p c r n cap (swp l i j) f yy.id xx.id s1 s2 i j (d 28) (d 31) w' := hS
        obtain ⟨v0, hrun⟩ := MK.run_ent (K := kA) hS1.mp (k := xx.id) (st := s2) (by simp)
        refine ⟨rfl, ?_⟩
        unfold swB at hK ⊢
        simp only [d0, d1] at hK ⊢
        exact wp_ment 142 (.tmp 47) (.tmp 55) rfl rfl rfl hrun (hK _ _ (show SwM w3 B p c r n cap (swp l i j) f yy.id xx.id s1 s2 i j (d 28) (d 31) w' from hS1) ⟨v0, rfl⟩)
      · intro d x w' hS hdi hv hp hcl K hK
        have hS1 : SwM w3 B p c r n cap (swp l i j) f yy.id xx.id s1 s2 i j (d 28) (d 31) w' := hS
        obtain ⟨v0, e29⟩ : ∃ v0, x 29 = .tuple #[v0, .int .i64 (s2 : Int)] := hv 29 (hp 29 (by kernel_rfl))
        refine ⟨rfl, ?_⟩
        unfold swB at hK ⊢
        simp only [e29] at hK ⊢
        go_wp2
        exact hK _ w' (show SwM w3 B p c r n cap (swp l i j) f yy.id xx.id s1 s2 i j (d 28) (d 31) w' from hS1) rfl
      · intro d x w' hS hdi hv hp hcl K hK
        have d0 : x 15 = .map (some c) := hv 15 (hp 15 (by kernel_rfl))
        have d1 : x 30 = .int .i64 (s2 : Int) := hv 30 (hp 30 (by kernel_rfl))
        have d2 : x 25 = .int .i64 (j : Int) := hv 25 (hp 25 (by kernel_rfl))
        have hS1 : SwM w3 B p c r n cap (swp l i j) f yy.id xx.id s1 s2 i j (d 28) (d 31) w' := hS
        have y28 : d 28 = true := hp 28 (by kernel_rfl)
        obtain ⟨w4, hrun, hS2⟩ := hS1.two y28 hdi
        refine ⟨rfl, ?_⟩
        unfold swB at hK ⊢
        simp only [d0, d1, d2] at hK ⊢
        exact wp_esto 142 (.tmp 47) (.tmp 61) (.tmp 57) rfl rfl rfl rfl hrun (hK undef _ (show SwM w3 B p c r n cap (swp l i j) f yy.id xx.id s1 s2 i j (d 28) true _ from hS2) trivial)
    · intro u hu d x w4 hS hd hv
      have hS1 : SwM w3 B p c r n cap (swp l i j) f yy.id xx.id s1 s2 i j (d 28) (d 31) w4 := hS
      rw [hd 28 (by decide), hd 31 (by decide)] at hS1
      have hmp := hS1.mp
      rw [if_pos rfl] at hmp
      have HFIN := hide (show (∃ f', PV w4 B p c (.slice (some ⟨r, 0, none⟩) n cap) (swp l i j) f' ∧ AtOk (swp l i j) f') ∧ Fr (fun k => (Value.slice (some ⟨r, 0, none⟩) n cap).ownBlock = some k ∨ k = c) w w4 from
        ⟨⟨_, ⟨hS1.o, hS1.row, MK.mps_mp hmp⟩, by
          have := HF.out.swp HL.out.1 HL.out.2.1
          rw [← HL.out.2.2.1, ← HL.out.2.2.2] at this
          exact this⟩, (HFR.out.mono (fun k _ e => .inl (by rw [e]; rfl))).trans hS1.fr (fun k _ e => .inr e)⟩)
      clear hS hS1 hd hv hu hmp
      unfold swB
      go_wp2
      go_end0
      exact ⟨rfl, HFIN.out⟩
end Go.Proofs.Ythcnoamgkkbkcaa
