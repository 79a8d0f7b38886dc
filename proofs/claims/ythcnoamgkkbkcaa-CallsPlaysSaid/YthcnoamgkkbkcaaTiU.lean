/- Chapter 07, timers: container/heap's up and down, over a pile. -/
import Derived.Test.YthcnoamgkkbkcaaTiP
namespace Go.Proofs.Ythcnoamgkkbkcaa
open Go.RowKit

/-- A pile, its map in order. -/
def PA (w : World) (B p c : Nat) (v : Value) (l : List Tm) : Prop := ∃ f, PV w B p c v l f ∧ AtOk l f
theorem PA.below {w w' : World} {B p c : Nat} {v : Value} {l : List Tm} (h : PA w B p c v l) (hb : Below w.heap.size w w') : PA w' B p c v l := by
  obtain ⟨f, h1, h2⟩ := h
  exact ⟨f, h1.below hb, h2⟩
theorem pless_pa {w : World} {B p c : Nat} {v : Value} {l : List Tm} (h : PA w B p c v l) (i j : Nat) (hi : i < l.length) (hj : j < l.length) :
    Calls Try.prog 142 #[.pointer (some ⟨p, 0, none⟩), .int .i64 (i : Int), .int .i64 (j : Int)] w fun e w' => e = .returned (.bool (tlt (tat l i) (tat l j))) ∧ Below w.heap.size w w' := by
  obtain ⟨f, h1, h2⟩ := h
  exact pless_any h1 i j hi hj
theorem swap_pa {w : World} {B p c : Nat} {v : Value} {l : List Tm} (h : PA w B p c v l) (i j : Nat) (hi : i < l.length) (hj : j < l.length) :
    Calls Try.prog 145 #[.pointer (some ⟨p, 0, none⟩), .int .i64 (i : Int), .int .i64 (j : Int)] w fun e w' => e = .returned (.tuple #[]) ∧ PA w' B p c v (swp l i j) ∧ Fr (fun k => v.ownBlock = some k ∨ k = c) w w' := by
  obtain ⟨f, h1, h2⟩ := h
  exact swap_any h1 h2 i j hi hj
/-- What stays: the elements, those from n on. -/
def Sam (n : Nat) (l l' : List Tm) : Prop := l'.Perm l ∧ l'.length = l.length ∧ ∀ k, n ≤ k → tat l' k = tat l k
theorem Sam.refl (n : Nat) (l : List Tm) : Sam n l l := ⟨.refl _, rfl, fun _ _ => rfl⟩
theorem Sam.swp {n : Nat} {l l' : List Tm} (h : Sam n l l') {i j : Nat} (hi : i < n) (hj : j < n) (hn : n ≤ l.length) : Sam n l (swp l' i j) := by
  obtain ⟨h1, h2, h3⟩ := h
  refine ⟨(swp_perm (by omega) (by omega)).trans h1, by rw [swp_len, h2], fun k hk => ?_⟩
  rw [swp_at (by omega) (by omega), if_neg (by omega), if_neg (by omega)]
  exact h3 k hk
theorem Sam.trans {n : Nat} {l l' l'' : List Tm} (h : Sam n l l') (k : Sam n l' l'') : Sam n l l'' := ⟨k.1.trans h.1, k.2.1.trans h.2.1, fun q hq => (k.2.2 q hq).trans (h.2.2 q hq)⟩
def UpS (w : World) (B p c n : Nat) (v : Value) (l : List Tm) (wr : World) (jv : Value) : Prop :=
  ∃ (k : Nat) (l' : List Tm), jv = .int .i64 (k : Int) ∧ k < n ∧ UPre l' n k ∧ Sam n l l' ∧ PA wr B p c v l' ∧ Fr (fun k => v.ownBlock = some k ∨ k = c) w wr
set_option maxHeartbeats 4000000 in
set_option maxRecDepth 100000 in
theorem up_any {w : World} {B p c n : Nat} {v : Value} {l : List Tm} (h : PA w B p c v l) (hn : n ≤ l.length) (hm : l.length ≤ 65536) (j : Nat) (hj : j < n) (hu : UPre l n j) :
    Calls Try.prog 100 #[.iface 141 (.pointer (some ⟨p, 0, none⟩)), .int .i64 (j : Int)] w fun e w' => e = .returned (.tuple #[]) ∧ ∃ l', HpI l' n ∧ Sam n l l' ∧ PA w' B p c v l' ∧ Fr (fun k => v.ownBlock = some k ∨ k = c) w w' := by
  have HS := hide (show UpS w B p c n v l w (.int .i64 (j : Int)) from ⟨j, l, rfl, hj, hu, Sam.refl _ _, h, Fr.refl _ _⟩)
  have HN := hide (show n ≤ l.length ∧ l.length ≤ 65536 from ⟨hn, hm⟩)
  clear h hu hj hn hm
  go_enter Try.func100, Try.ntmps100
  go_wp2_with fail
  go_loopw [1] (fun jv wr => UpS w B p c n v l wr jv) (fun jv _ => (intOf jv).toNat)
  case atStart => exact HS.out
  case round =>
    obtain ⟨k, l', rfl, hk, hu, hs, hp, hf⟩ := hrel
    have hlen := hs.2.1
    rcases Nat.eq_zero_or_pos k with h0 | h0
    · subst h0
      have HFIN := hide (show ∃ l', HpI l' n ∧ Sam n l l' ∧ PA wr B p c v l' ∧ Fr (fun k => v.ownBlock = some k ∨ k = c) w wr from ⟨l', hu.done0, hs, hp, hf⟩)
      clear hu hs hp hf hlen
      go_wp2_with fail
      go_end0
      exact ⟨rfl, HFIN.out⟩
    · obtain ⟨m, rfl⟩ : ∃ m, k = m + 1 := ⟨k - 1, by omega⟩
      obtain ⟨i, hi⟩ : ∃ i, i = m / 2 := ⟨_, rfl⟩
      have hip : (m + 1 - 1) / 2 = i := by rw [hi]; rfl
      have him : (m : Int) / 2 = (i : Int) := by rw [hi]; omega
      have hne : ((i : Int) == (m : Int) + 1) = false := by
        have : (i : Int) ≠ (m : Int) + 1 := by omega
        simpa using this
      have hmb : (m : Int) ≤ 65536 := by have := HN.out; omega
      have HI := hide (show i < m + 1 ∧ m + 1 < n ∧ n ≤ l'.length from ⟨by omega, hk, by have := HN.out; omega⟩)
      have HLT := hide (pless_pa hp (m + 1) i (by have := HI.out; omega) (by have := HI.out; omega))
      have HU := hide hu
      have HP := hide hp
      have HS2 := hide hs
      have HF := hide hf
      have HIP := hide hip
      clear hu hs hp hf hip hi hlen
      rcases hb : tlt (tat l' (m + 1)) (tat l' i) with _ | _
      · rw [hb] at HLT
        have hle : Tle (tat l' i) (tat l' (m + 1)) := (tlt_not _ _).1 hb
        have HB := hide hle
        clear hle hb
        go_wp2_with fail
        refine upon_meth 142 (.pointer (some ⟨p, 0, none⟩)) (by kernel_rfl) ?_
        go_wp2_with fail
        refine HLT.out.mono ?_
        rintro e w1 ⟨rfl, hb1⟩
        have HFIN := hide (show ∃ l', HpI l' n ∧ Sam n l l' ∧ PA w1 B p c v l' ∧ Fr (fun k => v.ownBlock = some k ∨ k = c) w w1 from ⟨l', HU.out.done (by rw [HIP.out]; exact HB.out), HS2.out, HP.out.below hb1, HF.out.trans (Fr.of_below hb1) (fun _ _ e => e)⟩)
        clear hb1
        go_wp2_with fail
        go_end0
        exact ⟨rfl, HFIN.out⟩
      · rw [hb] at HLT
        have hlt : Tlt (tat l' (m + 1)) (tat l' i) := (tlt_iff _ _).1 hb
        have HB := hide hlt
        clear hlt hb
        go_wp2_with fail
        refine upon_meth 142 (.pointer (some ⟨p, 0, none⟩)) (by kernel_rfl) ?_
        go_wp2_with fail
        refine HLT.out.mono ?_
        rintro e w1 ⟨rfl, hb1⟩
        have HSW := hide (swap_pa (HP.out.below hb1) i (m + 1) (by have := HI.out; omega) (by have := HI.out; omega))
        have HF1 := hide (HF.out.trans (Fr.of_below hb1) (fun _ _ e => e))
        clear hb1
        go_wp2_with fail
        refine upon_meth 145 (.pointer (some ⟨p, 0, none⟩)) (by kernel_rfl) ?_
        go_wp2_with fail
        refine HSW.out.mono ?_
        rintro e w2 ⟨rfl, hp2, hf2⟩
        have HRES := hide (show UpS w B p c n v l w2 (.int .i64 (i : Int)) from ⟨i, swp l' i (m + 1), rfl, by have := HI.out; omega, by
          have := HU.out.step HI.out.2.2 HI.out.2.1 (by omega) (by rw [HIP.out]; exact HB.out)
          rw [HIP.out] at this
          exact this, HS2.out.swp (by have := HI.out; omega) HI.out.2.1 HN.out.1, hp2, HF1.out.trans hf2 (fun _ _ e => e)⟩)
        have him2 : i < m + 1 := HI.out.1
        clear hp2 hf2
        go_wp2_with fail
        exact ⟨HRES.out, by simp only [intOf]; omega⟩
end Go.Proofs.Ythcnoamgkkbkcaa
