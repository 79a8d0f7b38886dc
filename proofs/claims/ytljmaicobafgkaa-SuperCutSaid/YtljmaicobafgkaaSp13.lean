/- Chapter 10, super: the walk of SuperLast. -/
import Derived.Test.YtljmaicobafgkaaSp11
import Derived.Test.YtljmaicobafgkaaSd10
import Derived.Deep.Slices
import Derived.ChangeSame
import Derived.Lib.SmallJoins
namespace Go.Proofs.Ytljmaicobafgkaa
open Go.Joins Go.ChangeShapes Go.WideShapes Go.RowKit Go.Deep

/-- The argument v reads as the texts l. -/
def TxtArg (w : World) (v : Value) (l : List ByteArray) : Prop :=
  (v = .slice none 0 0 ∧ l = []) ∨ ∃ (a : Addr) (cap : Nat), v = .slice (some a) l.length cap ∧ l.length ≤ cap ∧ cap ≤ maxLen ∧ ∀ i (hi : i < l.length), w.cell? (a.add i) = some (.string l[i])
theorem list_ofTx {α : Type} {q : Nat → α → Prop} : ∀ (n : Nat), (∀ i, i < n → ∃ x, q i x) → ∃ l : List α, l.length = n ∧ ∀ i (hi : i < l.length), q i l[i]
  | 0, _ => ⟨[], rfl, fun i hi => by simp at hi⟩
  | n + 1, h => by
    obtain ⟨l, hl, hq⟩ := list_ofTx n (fun i hi => h i (by omega))
    obtain ⟨x, hx⟩ := h n (by omega)
    refine ⟨l ++ [x], by simp [hl], fun i hi => ?_⟩
    rcases Nat.lt_or_ge i l.length with h1 | h1
    · rw [List.getElem_append_left h1]
      exact hq i h1
    · obtain rfl : i = l.length := by simp at hi; omega
      simp only [List.getElem_concat_length]
      rw [hl]
      exact hx
set_option maxRecDepth 100000 in
theorem open_texts {H : Type} {enc : TypeId × Value → H} {w : World} {base : Nat} {spare : Nat → Bool} {held : Bool} {r : Reach} {b0 : Nat} {v : Value} {d : DataW H} {p : List MemPlace}
    (hv : Value.okWide Try.prog w r b0 135 v) (h : DataW.Trod enc Try.prog w base spare held 135 v d p) :
    ∃ l : List ByteArray, TxtArg w v l ∧ ∀ x ∈ l, x.size ≤ maxLen := by
  obtain ⟨A, n0, c0, rfl⟩ := okWide_slice Try.underlying135 hv
  obtain ⟨fuel, hf⟩ := h
  rcases open_slice1 Try.underlying135 (by kernel_rfl) hf with ⟨hcs, hx⟩ | ⟨a, len, cap, m, n, V, D, Pl, hcs, hb, hl, hm, hmm, hx, hi⟩
  · simp only [Value.cells, List.cons.injEq, Value.slice.injEq, and_true] at hcs
    exact ⟨[], .inl ⟨by rw [hcs.1, hcs.2.1, hcs.2.2], rfl⟩, fun x hx => by simp at hx⟩
  · simp only [Value.cells, List.cons.injEq, Value.slice.injEq, and_true] at hcs
    obtain ⟨rfl, rfl, rfl⟩ := hcs
    have hlm : n0 ≤ m := by rw [hmm]; split <;> omega
    obtain ⟨l, hll, hq⟩ := list_ofTx (α := ByteArray) (q := fun i x => x.size ≤ maxLen ∧ w.cell? (a.add i) = some (.string x)) n0 (fun i hil => by
      obtain ⟨hc, ht⟩ := hi i (by omega)
      obtain ⟨s, e, _, z⟩ := DataW.trod_string (by kernel_rfl) ht
      simp only [List.cons.injEq, and_true] at e
      rw [e] at hc
      exact ⟨s, z, hc⟩)
    subst hll
    refine ⟨l, .inr ⟨a, c0, rfl, hl, hm, fun i hi => (hq i hi).2⟩, fun x hx => ?_⟩
    obtain ⟨i, hi, rfl⟩ := List.getElem_of_mem hx
    exact (hq i hi).1
theorem TxtArg.below {w w' : World} {v : Value} {l : List ByteArray} (h : TxtArg w v l) (hb : Below w.heap.size w w') : TxtArg w' v l := by
  rcases h with h | ⟨a, cap, rfl, h1, h2, h3⟩
  · exact .inl h
  · exact .inr ⟨a, cap, rfl, h1, h2, fun i hi => (hb.cell (World.block_lt_of_cell? _ _ (h3 i hi))).trans (h3 i hi)⟩
theorem TxtArg.slice {w : World} {v : Value} {l : List ByteArray} (h : TxtArg w v l) : ∃ A c, v = .slice A l.length c := by
  rcases h with ⟨rfl, rfl⟩ | ⟨a, cap, rfl, _⟩
  · exact ⟨none, 0, rfl⟩
  · exact ⟨some a, cap, rfl⟩
theorem TxtArg.len {w : World} {v : Value} {l : List ByteArray} (h : TxtArg w v l) : l.length ≤ maxLen := by
  rcases h with ⟨rfl, rfl⟩ | ⟨a, cap, rfl, h1, h2, h3⟩
  · simp
  · omega
theorem TxtArg.cell {w : World} {A : Option Addr} {n c : Nat} {l : List ByteArray} (h : TxtArg w (.slice A n c) l) {k : Nat} (hk : k < l.length) : ∃ a, A = some a ∧ l.length ≤ c ∧ c ≤ maxLen ∧ ∀ w', Below w.heap.size w w' → w'.cell? (a.add k) = some (.string l[k]) := by
  rcases h with ⟨e, rfl⟩ | ⟨a, cap, e, h1, h2, h3⟩
  · simp at hk
  · cases e
    exact ⟨a, rfl, h1, h2, fun w' hb => (hb.cell (World.block_lt_of_cell? _ _ (h3 k hk))).trans (h3 k hk)⟩
theorem crash_none {D : Dev} (h : D.sure = fun _ => none) (keep tear : Int) : D.crash keep tear = D := by
  have e : looseL D = [] := by
    unfold looseL
    rw [h]
    simp
  unfold Dev.crash
  rw [e]
  cases D
  simp only at h
  rw [h]
  rfl
def lastO (n : Nat) (want : ByteArray) : Option (Nat × ByteArray) := if n = 0 then none else some (n, want)
/-- The device whose n-th state, the last one, is want. -/
structure LI (D : Dev) (n : Nat) (want : ByteArray) : Prop where
  ok : Dok D
  len : D.now.length = 8
  lost : D.lost = false
  new : newest D = lastO n want
  zero : n = 0 → want = ⟨#[]⟩
  sure : D.sure = fun _ => none
theorem lastO_gen (n : Nat) (want : ByteArray) : genO (lastO n want) = n := by
  unfold lastO
  split
  · rename_i h
    rw [h]
    rfl
  · rfl
theorem LI.next {D : Dev} {n : Nat} {want : ByteArray} (h : LI D n want) (s : ByteArray) (hs : s.size ≤ 244) (hn : n ≤ 1000) : LI (D.next s) (n + 1) s := by
  have hg : genO (newest D) = n := by rw [h.new, lastO_gen]
  refine ⟨next_ok h.ok h.len s hs, by rw [next_len]; exact h.len, by rw [next_lost]; exact h.lost, ?_, fun e => by omega, rfl⟩
  rw [newest_next h.len s hs (by rw [hg]; omega), hg]
  unfold lastO
  rw [if_neg (by omega)]
theorem LI.start : LI (newD 8) 0 ⟨#[]⟩ := ⟨newD_ok 8, rfl, rfl, new_none, fun _ => rfl, rfl⟩
theorem LI.read0 {w : World} {g c r : Nat} {D : Dev} {want : ByteArray} (h : LI D 0 want) (hv : DV w g c (.slice (some ⟨r, 0, none⟩) 8 8) D) : Calls Try.prog 98 #[.pointer (some ⟨g, 0, none⟩)] w fun e w' => e = .returned (.tuple #[.string ⟨#[]⟩, .int .i64 0, .int .i64 7]) ∧ Below w.heap.size w w' := by
  have := sread_any hv h.ok h.lost h.len
  rw [h.new] at this
  exact this
theorem LI.read1 {w : World} {g c r n : Nat} {D : Dev} {want : ByteArray} (h : LI D n want) (hn : 1 ≤ n) (hv : DV w g c (.slice (some ⟨r, 0, none⟩) 8 8) D) : Calls Try.prog 98 #[.pointer (some ⟨g, 0, none⟩)] w fun e w' => e = .returned (.tuple #[.string want, .int .i64 (n : Int), .int .i64 0]) ∧ Below w.heap.size w w' := by
  have := sread_any hv h.ok h.lost h.len
  rw [h.new, show lastO n want = some (n, want) by unfold lastO; rw [if_neg (by omega)]] at this
  exact this
def SlS (w : World) (g c r : Nat) (l : List ByteArray) (wr : World) (sv nv iv : Value) : Prop :=
  ∃ (k n : Nat) (D : Dev) (want : ByteArray), iv = .int .i64 (k : Int) ∧ k ≤ l.length ∧ sv = .string want ∧ nv = .int .i64 (n : Int) ∧ n ≤ k ∧ LI D n want ∧ DV wr g c (.slice (some ⟨r, 0, none⟩) 8 8) D ∧ Below w.heap.size w wr
set_option maxHeartbeats 8000000 in
set_option maxRecDepth 100000 in
theorem walk_superLast (v : Value) (l : List ByteArray) (keep : Int) (w : World) (hv : TxtArg w v l) (_hz : ∀ x ∈ l, x.size ≤ maxLen) (_hw : (Lit.int .u64 keep).wf = true) :
    Calls Try.prog 23 #[v, .int .u64 keep] w fun e w' => e = .returned (.bool true) ∧ Below w.heap.size w w' := by
  obtain ⟨A, cap, rfl⟩ := hv.slice
  have hlm := hv.len
  simp only [maxLen] at hlm
  have HV := hide hv
  rcases Nat.lt_or_ge 30 l.length with hbig | hbig
  · have hbig' : (30 : Int) < (l.length : Int) := by omega
    generalize l.length = ll at *
    go_enter Try.func23, Try.ntmps23
    go_wp2_with fail
    refine (awake10 _).mono ?_
    rintro e w1 ⟨rfl, hb⟩
    go_wp2
    go_ret
    exact ⟨rfl, hb⟩
  · have hbig' : ¬ (30 : Int) < (l.length : Int) := by omega
    obtain ⟨ll, hll⟩ : ∃ ll, ll = l.length := ⟨_, rfl⟩
    rw [← hll] at hlm hbig hbig' HV ⊢
    have HLL := hide hll
    clear hv hll
    go_enter Try.func23, Try.ntmps23
    go_wp2_with fail
    refine (dnew_any 8 _).mono ?_
    rintro e w1 ⟨g, c, r, rfl, hdv, hb1, hg, hc, hr⟩
    have HS := hide (show SlS w g c r l w1 (.string ⟨#[]⟩) (.int .i64 0) (.int .i64 0) from ⟨0, 0, newD 8, ⟨#[]⟩, rfl, Nat.zero_le _, rfl, rfl, Nat.le_refl _, LI.start, hdv, hb1⟩)
    have HBL := hide (show w.heap.size ≤ g ∧ w.heap.size ≤ c ∧ w.heap.size ≤ r from ⟨hg, hc, hr⟩)
    clear hdv hb1 hg hc hr
    go_wp2_with fail
    go_loopw [6, 7, 8] (fun sv nv iv wr => SlS w g c r l wr sv nv iv) (fun _ _ iv _ => ll - (intOf iv).toNat)
    case atStart => exact HS.out
    case round =>
      obtain ⟨k, n, D, want, rfl, hk, rfl, rfl, hnk, hli, hdv, hb⟩ := hrel
      have HB := hide hb
      rw [← HLL.out] at hk
      rcases Nat.lt_or_ge k ll with hkl | hkl
      · obtain ⟨a, rfl, hc1, hc2, hcell⟩ := HV.out.cell (k := k) (by have := HLL.out; omega)
        simp only [maxLen] at hc2
        obtain ⟨x, hx⟩ : ∃ x, x = l[k]'(by have := HLL.out; omega) := ⟨_, rfl⟩
        rw [← hx] at hcell
        have HCELL := hide hcell
        have q0 := hcell wr hb
        have hcapi : ll ≤ cap := by have := HLL.out; omega
        have hkli : (k : Int) < (ll : Int) := by omega
        have hn30 : n ≤ 30 := by omega
        rcases Nat.lt_or_ge 244 x.size with hxs | hxs
        · have HW := hide (swrite_size g x wr hxs)
          have HLI := hide hli
          have HDV := hide hdv
          clear hcell hb hx hli hdv hxs hc1
          go_wp2_with fail
          refine HW.out.mono ?_
          rintro e w2 ⟨rfl, rfl⟩
          have HC := hide (crash_any HDV.out HLI.out.ok (by decide) HLI.out.len keep 5)
          rw [crash_none HLI.out.sure] at HC
          go_wp2_with fail
          refine HC.out.mono ?_
          rintro e w3 ⟨rfl, hdv3, hf3⟩
          have hb3 : Below w.heap.size w w3 := HB.out.trans (hf3.below _ HB.out.size (fun j hj e => by have := HBL.out; omega))
          have HB3 := hide hb3
          have HDV3 := hide hdv3
          clear hb3 hdv3 hf3
          rcases Nat.eq_zero_or_pos n with h0 | h0
          · subst h0
            have hw0 := HLI.out.zero rfl
            subst hw0
            have HR := hide (HLI.out.read0 HDV3.out)
            go_wp2_with fail
            refine HR.out.mono ?_
            rintro e w4 ⟨rfl, hb4⟩
            have HRES := hide (show SlS w g c r l w4 (.string (⟨#[]⟩ : ByteArray)) (.int .i64 ((0 : Nat) : Int)) (.int .i64 ((k + 1 : Nat) : Int)) from ⟨k + 1, 0, D, ⟨#[]⟩, rfl, by have := HLL.out; omega, rfl, rfl, by omega, HLI.out, HDV3.out.below hb4, HB3.out.trans (hb4.mono HB3.out.size)⟩)
            clear hb4
            go_wp2
            exact ⟨HRES.out, by simp only [intOf]; omega⟩
          · have HR := hide (HLI.out.read1 h0 HDV3.out)
            go_wp2_with fail
            refine HR.out.mono ?_
            rintro e w4 ⟨rfl, hb4⟩
            have HRES := hide (show SlS w g c r l w4 (.string (want)) (.int .i64 (n : Int)) (.int .i64 ((k + 1 : Nat) : Int)) from ⟨k + 1, n, D, want, rfl, by have := HLL.out; omega, rfl, rfl, by omega, HLI.out, HDV3.out.below hb4, HB3.out.trans (hb4.mono HB3.out.size)⟩)
            clear hb4
            go_wp2
            exact ⟨HRES.out, by simp only [intOf]; omega⟩
        · have HW := hide (swrite_any hdv hli.ok hli.lost hli.len x hxs (by rw [hli.new, lastO_gen]; omega))
          have hli2 := hli.next x hxs (by omega)
          obtain ⟨m, hm⟩ : ∃ m, m = n + 1 := ⟨_, rfl⟩
          rw [← hm] at hli2
          have hmi : (n : Int) + 1 = (m : Int) := by omega
          have hm1 : 1 ≤ m := by omega
          have hmk : m ≤ k + 1 := by omega
          have hm31 : (m : Int) ≤ 31 := by omega
          have HLI := hide hli2
          clear hli2 hm
          clear hcell hb hx hli hdv hxs hc1
          go_wp2_with fail
          refine HW.out.mono ?_
          rintro e w2 ⟨rfl, hdv2, hf2⟩
          have hb2 : Below w.heap.size w w2 := HB.out.trans (hf2.below _ HB.out.size (fun j hj e => by have := HBL.out; omega))
          have q1 := HCELL.out w2 hb2
          have HB2 := hide hb2
          have HDV := hide hdv2
          clear hdv2 hf2 hb2
          have HC := hide (crash_any HDV.out HLI.out.ok (by decide) HLI.out.len keep 5)
          rw [crash_none HLI.out.sure] at HC
          go_wp2_with fail
          refine HC.out.mono ?_
          rintro e w3 ⟨rfl, hdv3, hf3⟩
          have hb3 : Below w.heap.size w w3 := HB2.out.trans (hf3.below _ HB2.out.size (fun j hj e => by have := HBL.out; omega))
          have HB3 := hide hb3
          have HDV3 := hide hdv3
          clear hb3 hdv3 hf3
          have HR := hide (HLI.out.read1 hm1 HDV3.out)
          have hm0 : 0 < m := by omega
          go_wp2_with fail
          refine HR.out.mono ?_
          rintro e w4 ⟨rfl, hb4⟩
          have HRES := hide (show SlS w g c r l w4 (.string (x)) (.int .i64 (m : Int)) (.int .i64 ((k + 1 : Nat) : Int)) from ⟨k + 1, m, D.next x, x, rfl, by have := HLL.out; omega, rfl, rfl, by omega, HLI.out, HDV3.out.below hb4, HB3.out.trans (hb4.mono HB3.out.size)⟩)
          clear hb4
          go_wp2
          exact ⟨HRES.out, by simp only [intOf]; omega⟩
      · have hke : k = ll := by omega
        subst hke
        clear hli hdv hb
        go_wp2_with fail
        refine (awake10 _).mono ?_
        rintro e w5 ⟨rfl, hb5⟩
        have HB5 := hide (HB.out.trans (hb5.mono HB.out.size))
        clear hb5
        go_wp2
        go_ret
        exact ⟨rfl, HB5.out⟩
end Go.Proofs.Ytljmaicobafgkaa
