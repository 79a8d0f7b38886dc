/- Chapter 07, timers: Due. -/
import Derived.Test.YthcnoamgkkbkcaaTiE
namespace Go.Proofs.Ythcnoamgkkbkcaa
open Go.RowKit

theorem inf3 : (Try.prog.info? 3).map (fun i => (i.zero, i.size, i.bytes)) = some (some (.int .i64 0), 1, 8) := by kernel_rfl
/-- Rows of numbers. -/
def kI : EK Try.prog Int where
  cs n := [.int .i64 n]
  sz := 1
  e := 3
  t := 54
  by_ := 8
  len _ := rfl
  one a u h := by
    rw [List.mem_singleton] at h
    subst h
    rfl
  pos := by decide
  und := Try.underlying54
  inf := ek_inf inf3 rfl
  small := by decide
theorem due_split {x a b : List Tm} {now : Int} (hx : x = a ++ b) (hs : x.Pairwise Tlt) (ha : ∀ y ∈ a, y.at_ ≤ now) (hb : ∀ y ∈ b, now < y.at_) : tDue x now = (b, a.map (·.id)) := by
  subst hx
  unfold tDue
  have e1 : (a ++ b).filter (fun t => decide (now < t.at_)) = b := by
    rw [List.filter_append, List.filter_eq_nil_iff.2 (fun y hy => by have := ha y hy; simp; omega), List.nil_append, List.filter_eq_self.2 (fun y hy => by simpa using hb y hy)]
  have e2 : (a ++ b).filter (fun t => decide (t.at_ ≤ now)) = a := by
    rw [List.filter_append, List.filter_eq_self.2 (fun y hy => by simpa using ha y hy), List.filter_eq_nil_iff.2 (fun y hy => by have := hb y hy; simp; omega), List.append_nil]
  rw [e1, e2]
theorem later {h : Tm} {b : List Tm} {now : Int} (hs : (h :: b).Pairwise Tlt) (hh : now < h.at_) : ∀ y ∈ h :: b, now < y.at_ := fun y hy => by
  rcases List.mem_cons.1 hy with rfl | hy
  · exact hh
  · have := (List.pairwise_cons.1 hs).1 y hy
    unfold Tlt at this
    omega
theorem tStop_head {h : Tm} {b : List Tm} (hn : ((h :: b).map (·.id)).Nodup) : tStop (h :: b) h.id = b := by
  rw [List.map_cons, List.nodup_cons] at hn
  unfold tStop
  rw [List.filter_cons, if_neg (by simp)]
  exact tStop_none (fun y hy e => hn.1 (List.mem_map.2 ⟨y, hy, e⟩))
def DueS (w : World) (B t p c : Nat) (v : Value) (x : List Tm) (now : Int) (wr : World) (ov : Value) : Prop :=
  ∃ (a b : List Tm) (v' : Value), x = a ++ b ∧ (∀ y ∈ a, y.at_ ≤ now) ∧ TX wr B t p c v' b ∧ v'.ownBlock = v.ownBlock ∧ kI.row wr w.heap.size ov (a.map (·.id)) ∧ Fr (fun k => v.ownBlock = some k ∨ k = p ∨ k = c) w wr
def DueQ (w : World) (B t p c : Nat) (v : Value) (x : List Tm) (now : Int) (ov : Value) (w' : World) : Prop :=
  ∃ v', TX w' B t p c v' (tDue x now).1 ∧ v'.ownBlock = v.ownBlock ∧ kI.row w' w.heap.size ov (tDue x now).2 ∧ Fr (fun k => v.ownBlock = some k ∨ k = p ∨ k = c) w w'
def lenO (v : Value) : Nat := match v with
  | .slice _ n _ => n
  | _ => 0
theorem TX.ints {w : World} {B B' t p c : Nat} {v ov : Value} {x : List Tm} {a : List Int} (h : TX w B t p c v x) (hr : kI.row w B' ov a) {q : Nat} (hq : ov.ownBlock = some q) : v.ownBlock ≠ some q ∧ q ≠ p ∧ q ≠ c ∧ q ≠ t := by
  obtain ⟨h1, ⟨l, ⟨f, h2, -⟩, -⟩, -⟩ := h
  obtain ⟨-, -, cs, h7⟩ := EK.row_typed hr hq
  refine ⟨fun e => ?_, fun e => ?_, fun e => ?_, fun e => ?_⟩
  · obtain ⟨-, -, cs', h8⟩ := EK.row_typed h2.2.1 e
    rw [h7] at h8
    simp only [Option.some.injEq, Obj.cells.injEq] at h8
    exact absurd h8.2.1 (by decide)
  · subst e
    have := h2.1
    rw [h7] at this
    simp only [Option.some.injEq, Obj.cells.injEq] at this
    exact absurd this.2.1 (by decide)
  · subst e
    obtain ⟨es, k, h3⟩ := MK.mp_obj h2.2.2
    rw [h7] at h3
    cases h3
  · subst e
    rw [h7] at h1
    simp only [Option.some.injEq, Obj.cells.injEq] at h1
    exact absurd h1.2.1 (by decide)
theorem tdue_nil (now : Int) (w : World) : Calls Try.prog 49 #[.pointer none, .int .i64 now] w fun e w' => e = .returned (.slice none 0 0) ∧ Below w.heap.size w w' := by
  have HN := hide (tnext_nil)
  go_enter Try.func49, Try.ntmps49
  go_wp2_with fail
  go_loopw [5] (fun ov wr => ov = .slice none 0 0 ∧ Below w.heap.size w wr) (fun _ _ => 0)
  case atStart => exact ⟨rfl, Below.refl _ _⟩
  case round =>
    obtain ⟨rfl, hb⟩ := hrel
    have HB := hide hb
    clear hb
    go_wp2_with fail
    refine (HN.out _).mono ?_
    rintro e w1 ⟨rfl, hb1⟩
    have hb2 := HB.out.trans (hb1.mono HB.out.size)
    have HB2 := hide (hb2.alloc hb2.size (.cells #[.int .i64 0, .int .i64 0] 153))
    clear hb1 hb2
    go_wp2
    go_ret
    exact ⟨rfl, HB2.out⟩
set_option maxHeartbeats 8000000 in
set_option maxRecDepth 100000 in
theorem tdue_any {w : World} {B t p c : Nat} {v : Value} {x : List Tm} (h : TX w B t p c v x) (hx : TOk x) (now : Int) :
    Calls Try.prog 49 #[.pointer (some ⟨t, 0, none⟩), .int .i64 now] w fun e w' => ∃ ov, e = .returned ov ∧ DueQ w B t p c v x now ov w' := by
  have HS := hide (show DueS w B t p c v x now w (.slice none 0 0) from ⟨[], x, v, rfl, fun y hy => by simp at hy, h, rfl, EK.row_nil _ _, Fr.refl _ _⟩)
  have HX := hide hx
  have HB := hide h.2.2
  clear h hx
  go_enter Try.func49, Try.ntmps49
  go_wp2_with fail
  go_loopw [5] (fun ov wr => DueS w B t p c v x now wr ov) (fun ov _ => 64 - lenO ov)
  case atStart => exact HS.out
  case round =>
    obtain ⟨a, b, v', hxe, ha, ht, hown, hrow, hf⟩ := hrel
    obtain ⟨A, cc, e0⟩ := EK.row_slice hrow
    rw [List.length_map] at e0
    subst e0
    have hsx := HX.out.srt
    have hnx := HX.out.ids
    rw [hxe] at hsx hnx
    have hsb := (List.pairwise_append.1 hsx).2.1
    have hlen : a.length + b.length ≤ 64 := by have := HX.out.few; rw [hxe, List.length_append] at this; exact this
    have HNX := hide (tnext_any ht hsb)
    have HSZ := hide hf.size
    rcases b with _ | ⟨h0, b'⟩
    · have HQ := hide (show ∀ w', Below wr.heap.size wr w' → DueQ w B t p c v x now (.slice A a.length cc) w' from fun w' hb => by
        unfold DueQ
        rw [due_split hxe HX.out.srt ha (fun y hy => by simp at hy)]
        exact ⟨v', ht.below hb, hown, EK.row_below hrow hb, hf.trans (Fr.of_below hb) (fun _ _ e => e)⟩)
      clear hxe ha ht hown hrow hf hsx hnx hsb hlen
      simp only [tHead, noT] at HNX
      go_wp2_with fail
      refine HNX.out.mono ?_
      rintro e w1 ⟨rfl, hb1⟩
      have HQ2 := hide (HQ.out _ (hb1.alloc hb1.size (.cells #[.int .i64 0, .int .i64 0] 153)))
      clear hb1
      go_wp2
      go_ret
      exact ⟨_, rfl, HQ2.out⟩
    · simp only [tHead] at HNX
      by_cases hn : now < h0.at_
      · have HQ := hide (show ∀ w', Below wr.heap.size wr w' → DueQ w B t p c v x now (.slice A a.length cc) w' from fun w' hb => by
          unfold DueQ
          rw [due_split hxe HX.out.srt ha (later hsb hn)]
          exact ⟨v', ht.below hb, hown, EK.row_below hrow hb, hf.trans (Fr.of_below hb) (fun _ _ e => e)⟩)
        clear hxe ha ht hown hrow hf hsx hnx hsb hlen
        go_wp2_with fail
        refine HNX.out.mono ?_
        rintro e w1 ⟨rfl, hb1⟩
        have HQ2 := hide (HQ.out _ (hb1.alloc hb1.size (.cells #[.int .i64 h0.id, .int .i64 h0.at_] 153)))
        clear hb1
        go_wp2
        go_ret
        exact ⟨_, rfl, HQ2.out⟩
      · have HT := hide ht
        have HROW := hide hrow
        have HF := hide hf
        have HO := hide hown
        have HE := hide (show x = (a ++ [h0]) ++ b' ∧ (∀ y ∈ a ++ [h0], y.at_ ≤ now) ∧ ((h0 :: b').map (·.id)).Nodup ∧ a.length < 64 from ⟨by rw [hxe]; simp, fun y hy => by
          rcases List.mem_append.1 hy with hy | hy
          · exact ha y hy
          · simp at hy
            rw [hy]
            omega, by
          rw [List.map_append] at hnx
          exact (List.nodup_append.1 hnx).2.1, by simp at hlen; omega⟩)
        have hbx := HX.out.few
        clear hxe ha ht hown hrow hf hsx hnx hsb hlen
        go_wp2_with fail
        refine HNX.out.mono ?_
        rintro e w1 ⟨rfl, hb1⟩
        obtain ⟨q, hq⟩ : ∃ q, q = w1.heap.size := ⟨_, rfl⟩
        obtain ⟨W1, hW1⟩ : ∃ W, W = w1.alloc (.cells #[.int .i64 h0.id, .int .i64 h0.at_] 153) := ⟨_, rfl⟩
        have hbW : Below wr.heap.size wr W1 := by rw [hW1]; exact hb1.alloc hb1.size _
        have oq : W1.heap[q]? = some (.cells #[.int .i64 h0.id, .int .i64 h0.at_] 153 (0, 0)) := by rw [hW1, hq]; exact obj_new _ _
        have hwq : wr.heap.size ≤ q := by rw [hq]; exact hb1.size
        have ht1 := HT.out.below hbW
        have hrow1 := EK.row_below HROW.out hbW
        have hT0 := ht1.1
        obtain ⟨_, ⟨l, hpa, hhp, hperm⟩, _⟩ := ht1
        have ht1 := HT.out.below hbW
        have hl0 : 0 < l.length := by rw [hperm.length_eq]; simp
        have hhd : tat l 0 = h0 := by
          have hs := HX.out.srt
          rw [HE.out.1, List.append_assoc, List.pairwise_append] at hs
          exact head_is hhp hperm (by simpa using hs.2.1)
        have HPOP := hide (hpop_any hpa hhp (by rw [hperm.length_eq]; have := HX.out.few; rw [HE.out.1] at this; simp at this ⊢; omega) hl0)
        rw [hhd] at HPOP
        have z0 := obj_cell hT0 0
        have q1 := obj_cell oq 1
        simp only [List.getElem?_toArray, List.getElem?_cons_zero, List.getElem?_cons_succ] at z0 q1
        rw [hW1] at z0 q1
        rw [hq] at q1
        have HG := hide (show ∀ w2, Lft W1 B p c v' l 0 w2 → ∃ v'', TX w2 B t p c v'' b' ∧ v''.ownBlock = v.ownBlock ∧ kI.row w2 w.heap.size (.slice A a.length cc) (a.map (·.id)) ∧ Fr (fun k => v.ownBlock = some k ∨ k = p ∨ k = c) w w2 ∧ w2.heap[q]? = some (.cells #[.int .i64 h0.id, .int .i64 h0.at_] 153 (0, 0)) from fun w2 hl => by
          have h5 := hl.2
          have hap := ht1.apart
          have hb' : tStop (h0 :: b') (tat l 0).id = b' := by rw [hhd]; exact tStop_head HE.out.2.2.1
          obtain ⟨⟨v2, l2, a1, a2, a3, a4⟩, -⟩ := hl
          have hperm2 := lft_perm a3 hperm HE.out.2.2.1
          rw [hb'] at hperm2
          refine ⟨v2, ⟨h5.obj hT0 (fun e => ?_), ⟨l2, a1, a2, hperm2⟩, HB.out⟩, a4.trans HO.out, EK.row_fr hrow1 h5 (fun k hk e => ?_), (HF.out.trans (Fr.of_below hbW) (fun _ _ e => e)).trans h5 (fun k _ e => by rw [HO.out] at e; exact e), h5.obj oq (fun e => ?_)⟩
          · rcases e with e | e | e
            · exact (hap.2.2.2 t e).1 rfl
            · exact hap.1 e
            · exact hap.2.1 e
          · have := ht1.ints hrow1 hk
            rcases e with e | e | e
            · exact this.1 e
            · exact this.2.1 e
            · exact this.2.2.1 e
          · have hlt := HT.out.lt
            rcases e with e | e | e
            · have := (HT.out.apart.2.2.2 q e).2.2.2.2
              omega
            · omega
            · omega)
        clear hb1 hbW oq ht1 hrow1 hT0 hpa hhp hperm hhd hl0
        go_wp2_with fail
        rw [← hW1]
        clear hW1 z0 q1
        refine HPOP.out.mono ?_
        rintro e w2 ⟨rfl, hl⟩
        obtain ⟨v2, g1, g2, g3, g4, g5⟩ := HG.out w2 hl
        have hal := (Below.refl w2.heap.size w2).alloc (Nat.le_refl _) (.cells #[.int .i64 h0.id] 3)
        have g3' := EK.row_below g3 hal
        obtain ⟨v4, w4, happ, hrow4, hf4, hbl4⟩ := EK.app g3' (EK.rd_one (K := kI) h0.id (obj_new w2 _)) (by simp; have := HE.out.2.2.2; omega) (by have := g4.size; simp; omega) 54
        have HAPP : Hid ((Builtin.append_ #[54, 54] 54 #[.slice A a.length cc, .slice (some ⟨w2.heap.size, 0, none⟩) 1 1]).run Try.prog (w2.alloc (.cells #[.int .i64 h0.id] 3)) = .ok v4 w4) := hide happ
        have q0 := obj_cell g5 0
        simp only [List.getElem?_toArray, List.getElem?_cons_zero] at q0
        rw [hq] at q0
        have hlv : lenO v4 = a.length + 1 := by
          obtain ⟨A4, c4, e4⟩ := EK.row_slice hrow4
          rw [e4]
          simp [lenO]
        have HRES := hide (show DueS w B t p c v x now w4 v4 from ⟨a ++ [h0], b', v2, HE.out.1, HE.out.2.1, by
          have g1' := g1.below hal
          obtain ⟨k1, ⟨l3, ⟨f3, k2, k3⟩, k4, k5⟩, k6⟩ := g1'
          have hint := fun q hq => (g1.below hal).ints g3' (q := q) hq
          exact ⟨hf4.obj k1 (fun e => (hint _ e).2.2.2 rfl), ⟨l3, ⟨f3, ⟨hf4.obj k2.1 (fun e => (hint _ e).2.1 rfl), EK.row_fr k2.2.1 hf4 (fun k hk e => (hint _ e).1 hk), MK.mp_fr k2.2.2 hf4 (fun e => (hint _ e).2.2.1 rfl)⟩, k3⟩, k4, k5⟩, k6⟩, g2, by rw [List.map_append]; exact hrow4, (g4.trans (Fr.of_below hal) (fun _ _ e => e)).trans hf4 (fun k hk e => by
          have := (EK.row_typed g3 e).1
          omega)⟩)
        have hlt64 := HE.out.2.2.2
        clear hl g1 g2 g3 g4 g5 hal g3' happ hrow4 hf4 hbl4 hq
        go_wp2_with (refine wpList_append_run rfl (.tmp 28) (.tmp 31) 54 54 rfl rfl rfl HAPP.out ?_)
        exact ⟨HRES.out, by rw [hlv]; simp [lenO]; omega⟩
end Go.Proofs.Ythcnoamgkkbkcaa
