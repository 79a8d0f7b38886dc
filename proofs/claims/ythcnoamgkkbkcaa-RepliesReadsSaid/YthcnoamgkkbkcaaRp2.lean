/- Chapter 15, replies: plainly, and in memory; New, may, find, Ids. -/
import Derived.Test.YthcnoamgkkbkcaaRp1
import Derived.Test.YthcnoamgkkbkcaaRp0
namespace Go.Proofs.Ythcnoamgkkbkcaa
open Go.RowKit

/-- Of each client its calls. -/
structure RS where
  room : Int
  L : Int → List En
def mayR (c id : Int) : Prop := 0 ≤ c ∧ c < 64 ∧ 0 ≤ id ∧ id < 2147483648
instance (c id : Int) : Decidable (mayR c id) := by unfold mayR; exact inferInstance
def setL (L : Int → List En) (c : Int) (l : List En) : Int → List En := fun j => if j = c then l else L j
theorem setL_same (L : Int → List En) (c : Int) (l : List En) : setL L c l c = l := if_pos rfl
theorem setL_other (L : Int → List En) {c j : Int} (l : List En) (h : j ≠ c) : setL L c l j = L j := if_neg h
structure ROk (S : RS) : Prop where
  room : 1 ≤ S.room ∧ S.room ≤ 16
  srt : ∀ c, Rs (S.L c)
  len : ∀ c, ((S.L c).length : Int) ≤ S.room
  rng : ∀ c, ∀ e ∈ S.L c, 0 ≤ e.id ∧ e.id ≤ 2147483647
  rep : ∀ c, ∀ e ∈ S.L c, e.rep.size ≤ 4096
  bsy : ∀ c, ∀ e ∈ S.L c, e.busy = true → e.rep = ByteArray.empty
  out : ∀ c, ¬ (0 ≤ c ∧ c < 64) → S.L c = []
def putIn (l : List En) (id : Int) : List En := l.take (ahd l id) ++ ⟨id, true, ByteArray.empty⟩ :: l.drop (ahd l id)
/-- The last ones, as many as there is room. -/
def lastOf (room : Int) (l : List En) : List En := l.drop (l.length - room.toNat)
def rTake (S : RS) (c id : Int) : RS × Int × ByteArray :=
  if mayR c id then
    match (S.L c)[ahd (S.L c) id]? with
    | some e => if e.id = id then (if e.busy = true then (S, 3, ByteArray.empty) else (S, 2, e.rep)) else
        if ((S.L c).length : Int) = S.room ∧ ahd (S.L c) id = 0 then (S, 4, ByteArray.empty) else (⟨S.room, setL S.L c (lastOf S.room (putIn (S.L c) id))⟩, 1, ByteArray.empty)
    | none => if ((S.L c).length : Int) = S.room ∧ ahd (S.L c) id = 0 then (S, 4, ByteArray.empty) else (⟨S.room, setL S.L c (lastOf S.room (putIn (S.L c) id))⟩, 1, ByteArray.empty)
  else (S, 0, ByteArray.empty)
def rPut (S : RS) (c id : Int) (s : ByteArray) : RS × Bool :=
  if mayR c id ∧ s.size ≤ 4096 then
    match (S.L c)[ahd (S.L c) id]? with
    | some e => if e.id = id ∧ e.busy = true then (⟨S.room, setL S.L c ((S.L c).set (ahd (S.L c) id) ⟨id, false, s⟩)⟩, true) else (S, false)
    | none => (S, false)
  else (S, false)
def rIds (S : RS) (c : Int) : List Int := (S.L c).map (·.id)
def newR (room : Int) : RS := ⟨min (max room 1) 16, fun _ => []⟩
theorem newR_ok (room : Int) : ROk (newR room) :=
  ⟨by unfold newR; simp only; omega, fun _ => .nil, fun _ => by unfold newR; simp only [List.length_nil]; omega, (fun _ e h => by cases h), (fun _ e h => by cases h), (fun _ e h => by cases h), fun _ _ => rfl⟩
/-- Maps of clients to slices of entries. -/
def kR : MK Try.prog Value where
  m := 106
  k := 3
  e := 117
  val v := v
  z := .slice none 0 0
  und := Try.underlying106
  key := Try.underlying3
  zero w := Try.zeroValue117 w
theorem info108 : (Try.prog.info? 108).map (·.size) = some 2 := by kernel_rfl
structure RV (w : World) (B g cm : Nat) (S : RS) (f : Int → Option Value) : Prop where
  o : w.heap[g]? = some (.cells #[.int .i64 S.room, .map (some cm)] 108 (0, 0))
  mp : kR.mp w cm f
  no : ∀ c, f c = none → S.L c = []
  yes : ∀ c v, f c = some v → S.L c ≠ [] ∧ kE.sg w B v (S.L c)
  sep : ∀ c d v u, f c = some v → f d = some u → c ≠ d → v.ownBlock ≠ u.ownBlock
  bg : B ≤ g ∧ B ≤ cm
def vOf (f : Int → Option Value) (c : Int) : Value := (f c).getD (.slice none 0 0)
section
variable {w w' : World} {B g cm : Nat} {S : RS} {f : Int → Option Value}
theorem RV.below (h : RV w B g cm S f) (hb : Below w.heap.size w w') : RV w' B g cm S f :=
  ⟨obj_below h.o hb, MK.mp_below h.mp hb, h.no, fun c v e => ⟨(h.yes c v e).1, EK.sg_below (h.yes c v e).2 hb⟩, h.sep, h.bg⟩
theorem RV.lt (h : RV w B g cm S f) : g < w.heap.size ∧ cm < w.heap.size := ⟨obj_lt h.o, MK.mp_lt h.mp⟩
theorem RV.bsz (h : RV w B g cm S f) : B ≤ w.heap.size := by have := h.lt; have := h.bg; omega
theorem RV.gm (h : RV w B g cm S f) : g ≠ cm := by
  rintro rfl
  obtain ⟨es, k, h3⟩ := MK.mp_obj h.mp
  rw [h.o] at h3
  cases h3
theorem RV.sg (h : RV w B g cm S f) (c : Int) : kE.sg w B (vOf f c) (S.L c) := by
  unfold vOf
  rcases e : f c with _ | v
  · rw [h.no c e]
    exact EK.sg_nil _ _
  · exact (h.yes c v e).2
theorem RV.look (h : RV w B g cm S f) (c : Int) : (Instr.lookup 106 (.map (some cm)) (.int .i64 c) false).run Try.prog w = .ok (vOf f c) w := by
  have := MK.run_look h.mp c
  unfold vOf
  rcases e : f c with _ | v <;> rw [e] at this <;> exact this
/-- The map's block is no row of entries. -/
theorem RV.mapFar (h : RV w B g cm S f) {c : Int} {v : Value} (e : f c = some v) : v.ownBlock ≠ some cm := fun e2 => by
  obtain ⟨es, k, h3⟩ := MK.mp_obj h.mp
  obtain ⟨-, -, cs, h7⟩ := EK.sg_typed (h.yes c v e).2 e2
  rw [h3] at h7
  cases h7
/-- A client's row was turned, in its block or in a new one. -/
theorem RV.turn (h : RV w B g cm S f) (c : Int) {l : List En} {v' : Value} (hf : Fr (fun j => (vOf f c).ownBlock = some j) w w') (hv : kE.sg w' B v' l) (hl : l ≠ []) (ho : v'.ownBlock = (vOf f c).ownBlock ∨ ∃ k, v'.ownBlock = some k ∧ w.heap.size ≤ k) {w2 : World} (hmp : kR.mp w2 cm (upm f c (some v'))) (hf2 : Fr (fun j => j = cm) w' w2) :
    RV w2 B g cm ⟨S.room, setL S.L c l⟩ (upm f c (some v')) ∧ Below B w w2 := by
  have hlt := h.lt
  have hbg := h.bg
  have hne : ∀ j, (vOf f c).ownBlock = some j → B ≤ j ∧ ∃ cs, w.heap[j]? = some (.cells cs 116 (0, 0)) := fun j e => by
    obtain ⟨h1, -, h3⟩ := EK.sg_typed (h.sg c) e
    exact ⟨h1, h3⟩
  have hgf : ¬ (vOf f c).ownBlock = some g := fun e => by
    obtain ⟨-, cs, h3⟩ := hne g e
    rw [h.o] at h3
    simp only [Option.some.injEq, Obj.cells.injEq] at h3
    exact absurd h3.2.1 (by decide)
  refine ⟨⟨hf2.obj (hf.obj h.o hgf) (fun e => h.gm e), hmp, fun d hd => ?_, fun d u hd => ?_, fun d1 d2 u1 u2 e1 e2 hd => ?_, h.bg⟩, (hf.below B h.bsz (fun j hj e => by have := (hne j e).1; omega)).trans (hf2.below B (by have := hf.size; omega) (fun j hj e => by omega))⟩
  · have hdc : d ≠ c := fun e => by rw [e, upm_same] at hd; cases hd
    rw [upm_other _ _ hdc] at hd
    show setL S.L c l d = []
    rw [setL_other _ _ hdc]
    exact h.no d hd
  · have hfar : ∀ x, kE.sg w' B u x → ∀ j, u.ownBlock = some j → ¬ j = cm := fun x hx j e e2 => by
      obtain ⟨es, k, h3⟩ := MK.mp_obj h.mp
      have h4 : w'.heap[cm]? = some (.map es k) := hf.obj h3 (fun e3 => by
        obtain ⟨-, cs, h5⟩ := hne cm e3
        rw [h3] at h5
        cases h5)
      obtain ⟨-, -, cs, h7⟩ := EK.sg_typed hx e
      rw [e2, h4] at h7
      cases h7
    by_cases hdc : d = c
    · rw [hdc, upm_same] at hd
      cases hd
      rw [hdc]
      show setL S.L c l c ≠ [] ∧ kE.sg w2 B v' (setL S.L c l c)
      rw [setL_same]
      exact ⟨hl, EK.sg_fr hv hf2 (hfar l hv)⟩
    · rw [upm_other _ _ hdc] at hd
      show setL S.L c l d ≠ [] ∧ kE.sg w2 B u (setL S.L c l d)
      rw [setL_other _ _ hdc]
      obtain ⟨h1, h2⟩ := h.yes d u hd
      have h3 : kE.sg w' B u (S.L d) := EK.sg_fr h2 hf (fun j e e2 => by
        rcases e4 : f c with _ | v
        · unfold vOf at e2
          rw [e4] at e2
          cases e2
        · have := h.sep d c u v hd e4 hdc
          unfold vOf at e2
          rw [e4] at e2
          exact this (by rw [e]; exact e2.symm))
      exact ⟨h1, EK.sg_fr h3 hf2 (hfar _ h3)⟩
  · have key : ∀ d u, f d = some u → d ≠ c → v'.ownBlock ≠ u.ownBlock := fun d u e hdc e3 => by
      obtain ⟨h1, h2⟩ := h.yes d u e
      rcases ho with ho | ⟨k, ho, hk⟩
      · rcases e4 : f c with _ | v
        · unfold vOf at ho
          rw [e4] at ho
          rw [ho] at e3
          rcases h2 with ⟨-, h2⟩ | ⟨b, o, cc, cur, h2, -⟩
          · exact h1 h2
          · rw [h2] at e3
            cases e3
        · unfold vOf at ho
          rw [e4] at ho
          exact h.sep d c u v e e4 hdc (by rw [← e3, ho]; rfl)
      · rw [ho] at e3
        have := (EK.sg_typed h2 e3.symm).2.1
        omega
    by_cases hd1 : d1 = c
    · rw [hd1, upm_same] at e1
      cases e1
      have hd2 : d2 ≠ c := fun e => hd (hd1.trans e.symm)
      rw [upm_other _ _ hd2] at e2
      exact key d2 u2 e2 hd2
    · rw [upm_other _ _ hd1] at e1
      by_cases hd2 : d2 = c
      · rw [hd2, upm_same] at e2
        cases e2
        exact fun e => key d1 u1 e1 hd1 e.symm
      · rw [upm_other _ _ hd2] at e2
        exact h.sep d1 d2 u1 u2 e1 e2 hd
end
theorem mayR_any (c id : Int) (w : World) : Calls Try.prog 55 #[.int .i64 c, .int .i64 id] w fun e w' => e = .returned (.bool (decide (mayR c id))) ∧ w = w' := by
  by_cases h1 : 0 ≤ c
  · by_cases h2 : c < 64
    · by_cases h3 : 0 ≤ id
      · by_cases h4 : id < 2147483648
        · rw [decide_eq_true (show mayR c id from ⟨h1, h2, h3, h4⟩)]
          go_enter Try.func55, Try.ntmps55
          go_wp2
          go_ret
          exact ⟨rfl, rfl⟩
        · rw [decide_eq_false (show ¬ mayR c id from fun h => h4 h.2.2.2)]
          go_enter Try.func55, Try.ntmps55
          go_wp2
          go_ret
          exact ⟨rfl, rfl⟩
      · rw [decide_eq_false (show ¬ mayR c id from fun h => h3 h.2.2.1)]
        go_enter Try.func55, Try.ntmps55
        go_wp2
        go_ret
        exact ⟨rfl, rfl⟩
    · rw [decide_eq_false (show ¬ mayR c id from fun h => h2 h.2.1)]
      go_enter Try.func55, Try.ntmps55
      go_wp2
      go_ret
      exact ⟨rfl, rfl⟩
  · rw [decide_eq_false (show ¬ mayR c id from fun h => h1 h.1)]
    go_enter Try.func55, Try.ntmps55
    go_wp2
    go_ret
    exact ⟨rfl, rfl⟩
set_option maxHeartbeats 4000000 in
theorem newR_any (room : Int) (w : World) : Calls Try.prog 32 #[.int .i64 room] w fun e w' => ∃ g cm, e = .returned (.pointer (some ⟨g, 0, none⟩)) ∧ RV w' w.heap.size g cm (newR room) (fun _ => none) ∧ Below w.heap.size w w' := by
  obtain ⟨M1, hM1⟩ : ∃ M, M = max room 1 := ⟨_, rfl⟩
  obtain ⟨M2, hM2⟩ : ∃ M, M = min M1 16 := ⟨_, rfl⟩
  have g1 := fun ts t => run_mx ts t room 1 M1 hM1
  have g2 := fun ts t => run_mn ts t M1 16 M2 hM2
  have hmm : ∀ W : World, (Instr.makeMap 106 none).run Try.prog W = .ok (.map (some W.heap.size)) (W.alloc (.map #[] 0)) := fun W => run_makeMap (P := Try.prog) 106 W
  have hb := ((Below.refl w.heap.size w).alloc (Nat.le_refl _) (.map #[] 0)).alloc (by simp) (.cells #[.int .i64 M2, .map (some w.heap.size)] 108)
  have HRES := hide (show RV ((w.alloc (.map #[] 0)).alloc (.cells #[.int .i64 M2, .map (some w.heap.size)] 108)) w.heap.size (w.heap.size + 1) w.heap.size (newR room) (fun _ => none) from
    ⟨by unfold newR; rw [← hM1, ← hM2]; have := obj_new (w.alloc (.map #[] 0)) (.cells #[.int .i64 M2, .map (some w.heap.size)] 108); rwa [World.size_alloc] at this, MK.mp_new (clock := 0) (obj_alloc (obj_new w _) _), fun _ _ => rfl, (fun c v e => by cases e), (fun c d v u e => by cases e), by omega, Nat.le_refl _⟩)
  have HB := hide hb
  clear hM1 hM2 hb
  go_enter Try.func32, Try.ntmps32
  go_wp2
  go_ret
  exact ⟨_, _, rfl, HRES.out, HB.out⟩
set_option maxHeartbeats 4000000 in
set_option maxRecDepth 100000 in
theorem findR_any {w : World} {B g cm : Nat} {S : RS} {f : Int → Option Value} (h : RV w B g cm S f) (hk : ROk S) (c id : Int) (hid : 0 ≤ id ∧ id ≤ 2147483647) :
    Calls Try.prog 56 #[.pointer (some ⟨g, 0, none⟩), .int .i64 c, .int .i64 id] w fun e w' => e = .returned (.tuple #[.int .i64 (ahd (S.L c) id : Nat), .bool (isAt (S.L c) id)]) ∧ Below w.heap.size w w' := by
  have z1 := obj_cell h.o 1
  simp only [List.getElem?_toArray, List.getElem?_cons_zero, List.getElem?_cons_succ] at z1
  have hlk := h.look c
  have hlen := hk.len c
  have hroom := hk.room
  have HBS := hide (bsearch_any (h.sg c) (hk.srt c) (by omega) id hid (hk.rng c))
  clear h hk hid hlen hroom
  go_enter Try.func56, Try.ntmps56
  go_wp2_with fail
  refine HBS.out.mono ?_
  rintro e w1 ⟨rfl, hb1⟩
  have HB1 := hide hb1
  clear hb1
  go_wp2
  go_ret2
  exact ⟨rfl, HB1.out⟩
end Go.Proofs.Ythcnoamgkkbkcaa
