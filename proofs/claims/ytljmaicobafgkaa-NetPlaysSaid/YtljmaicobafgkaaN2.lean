/- A join of 3 texts of this claim: FrDec, Ref, Ref3. Conditions: none of their own. -/
import Derived.Test.YtljmaicobafgkaaN1
section
/- The walk of frames.Decode. -/
namespace Go.Proofs.Ytljmaicobafgkaa
open Go.RowKit

theorem rByte_len {σ : Option (List UInt8)} {r : List UInt8} (h : (rByte σ).2 = some r) {N : Nat} (hl : ∀ l, σ = some l → l.length ≤ N) : r.length ≤ N := by
  rcases σ with _ | l
  · simp [rByte] at h
  · rcases l with _ | ⟨b, l⟩
    · simp [rByte] at h
    · have := hl _ rfl
      simp only [rByte, Option.some.injEq] at h
      subst h
      simp only [List.length_cons] at this
      omega
/-- The reader, and the message, behind k fields. -/
def d1 (t : List UInt8) : Option (List UInt8) := (rByte (some t)).2
def d2 (t : List UInt8) : Option (List UInt8) := (rByte (d1 t)).2
def d3 (t : List UInt8) : Option (List UInt8) := (rByte (d2 t)).2
def d4 (t : List UInt8) : Option (List UInt8) := (rInt (d3 t)).2
def d5 (t : List UInt8) : Option (List UInt8) := (rText (d4 t)).2
def dσ (t : List UInt8) : Nat → Option (List UInt8)
  | 0 => some t
  | 1 => d1 t
  | 2 => d2 t
  | 3 => d3 t
  | 4 => d4 t
  | _ => d5 t
def dK (t : List UInt8) : Int := (rByte (some t)).1
def dF (t : List UInt8) : Int := (rByte (d1 t)).1
def dT (t : List UInt8) : Int := (rByte (d2 t)).1
def dI (t : List UInt8) : Int := (rInt (d3 t)).1
def dB (t : List UInt8) : List UInt8 := (rText (d4 t)).1
theorem dσ_len (t : List UInt8) (N : Nat) (h : t.length ≤ N) : ∀ k, k ≤ 4 → ∀ l, dσ t k = some l → l.length ≤ N := by
  have h0 : ∀ l, some t = some l → l.length ≤ N := fun l e => by cases e; exact h
  have h1 : ∀ l, d1 t = some l → l.length ≤ N := fun l e => rByte_len e h0
  have h2 : ∀ l, d2 t = some l → l.length ≤ N := fun l e => rByte_len e h1
  have h3 : ∀ l, d3 t = some l → l.length ≤ N := fun l e => rByte_len e h2
  have h4 : ∀ l, d4 t = some l → l.length ≤ N := fun l e => rInt_len e h3
  intro k hk
  match k with
  | 0 => exact h0
  | 1 => exact h1
  | 2 => exact h2
  | 3 => exact h3
  | 4 => exact h4
def dCells (t : List UInt8) : Nat → Array Value
  | 0 => #[.int .i64 0, .int .i64 0, .int .i64 0, .int .i64 0, .string ⟨#[]⟩]
  | 1 => #[.int .i64 (dK t), .int .i64 0, .int .i64 0, .int .i64 0, .string ⟨#[]⟩]
  | 2 => #[.int .i64 (dK t), .int .i64 (dF t), .int .i64 0, .int .i64 0, .string ⟨#[]⟩]
  | 3 => #[.int .i64 (dK t), .int .i64 (dF t), .int .i64 (dT t), .int .i64 0, .string ⟨#[]⟩]
  | 4 => #[.int .i64 (dK t), .int .i64 (dF t), .int .i64 (dT t), .int .i64 (dI t), .string ⟨#[]⟩]
  | _ => #[.int .i64 (dK t), .int .i64 (dF t), .int .i64 (dT t), .int .i64 (dI t), .string ⟨(dB t).toArray⟩]
def dOk (t : List UInt8) : Prop := d5 t = some [] ∧ chk (dK t) (dF t) (dT t) (dI t) (dB t).length = 0
instance (t : List UInt8) : Decidable (dOk t) := by unfold dOk; infer_instance

def DecS (w0 : World) (zg mg rg pg : Nat) (t : List UInt8) (wfv : Value) (w : World) (i : Value) : Prop :=
  ∃ k : Nat, i = .int .i64 k ∧ k ≤ 5 ∧ Rdr w rg (dσ t k) ∧ w.heap[mg]? = some (.cells (dCells t k) 63 (0, 0)) ∧
    w.heap[pg]? = some (.cells #[fInt ⟨mg, 0, none⟩ 129 133 wfv (.pointer (some ⟨rg, 0, none⟩)), fInt ⟨mg, 1, none⟩ 129 133 wfv (.pointer (some ⟨rg, 0, none⟩)), fInt ⟨mg, 2, none⟩ 129 133 wfv (.pointer (some ⟨rg, 0, none⟩)), fInt ⟨mg, 3, none⟩ 108 112 wfv (.pointer (some ⟨rg, 0, none⟩)), fStr ⟨mg, 4, none⟩ 168 169 wfv (.pointer (some ⟨rg, 0, none⟩))] 192 (0, 0)) ∧
    w.heap[zg]? = some (.cells (dCells t 0) 63 (0, 0)) ∧ zg ≠ mg ∧
    Below w0.heap.size w0 w ∧ w0.heap.size ≤ rg ∧ w0.heap.size ≤ mg
theorem five_set {w : World} {g : Nat} {a b c d e : Value} (h : w.heap[g]? = some (.cells #[a, b, c, d, e] 63 (0, 0))) (v0 v1 v2 v3 v4 : Value) :
    (((((w.setCell ⟨g, 0, none⟩ v0).setCell ⟨g, 1, none⟩ v1).setCell ⟨g, 2, none⟩ v2).setCell ⟨g, 3, none⟩ v3).setCell ⟨g, 4, none⟩ v4).heap[g]? = some (.cells #[v0, v1, v2, v3, v4] 63 (0, 0)) := by
  have h0 := obj_set h 0 v0
  have h1 := obj_set h0 1 v1
  have h2 := obj_set h1 2 v2
  have h3 := obj_set h2 3 v3
  have h4 := obj_set h3 4 v4
  simpa using h4
theorem five_below {B : Nat} {w w' : World} {g : Nat} (h : Below B w w') (hg : B ≤ g) {v0 v1 v2 v3 v4 : Value} :
    Below B w (((((w'.setCell ⟨g, 0, none⟩ v0).setCell ⟨g, 1, none⟩ v1).setCell ⟨g, 2, none⟩ v2).setCell ⟨g, 3, none⟩ v3).setCell ⟨g, 4, none⟩ v4) :=
  ((((h.setCell (p := ⟨g, 0, none⟩) hg v0).setCell (p := ⟨g, 1, none⟩) hg v1).setCell (p := ⟨g, 2, none⟩) hg v2).setCell (p := ⟨g, 3, none⟩) hg v3).setCell (p := ⟨g, 4, none⟩) hg v4
theorem mt255 (x : Array Value) (w : World) : (method 421 255 (.agg x) "hurdle/frames.take").run Try.prog w = .ok (237, .agg x) w := by kernel_rfl
theorem mt259 (x : Array Value) (w : World) : (method 421 259 (.agg x) "hurdle/frames.take").run Try.prog w = .ok (239, .agg x) w := by kernel_rfl
theorem rText_len (t : List UInt8) (h : ∀ l, d4 t = some l → l.length ≤ 1073741824) : (rText (d4 t)).1.length ≤ 1073741824 := by
  unfold rText
  split
  · simp
  · rename_i r hr
    have := rInt_len hr h
    split
    · rw [List.length_take]
      omega
    · simp
theorem Rdr.ne {w : World} {g k : Nat} {σ : Option (List UInt8)} {cs : Array Value} {t : TypeId} {f : Nat × Nat} (h : Rdr w g σ) (h' : w.heap[k]? = some (.cells cs t f)) (ht : t ≠ 248) : k ≠ g := obj_ne h' h ht
theorem decS_next {w0 w w' : World} {zg mg rg pg : Nat} {t : List UInt8} {wfv : Value} (k : Nat) (hk : k < 5) {σ : Option (List UInt8)} {cs : Array Value} (hR : Rdr w rg σ) (hM : w.heap[mg]? = some (.cells cs 63 (0, 0)))
    (hP : w.heap[pg]? = some (.cells #[fInt ⟨mg, 0, none⟩ 129 133 wfv (.pointer (some ⟨rg, 0, none⟩)), fInt ⟨mg, 1, none⟩ 129 133 wfv (.pointer (some ⟨rg, 0, none⟩)), fInt ⟨mg, 2, none⟩ 129 133 wfv (.pointer (some ⟨rg, 0, none⟩)), fInt ⟨mg, 3, none⟩ 108 112 wfv (.pointer (some ⟨rg, 0, none⟩)), fStr ⟨mg, 4, none⟩ 168 169 wfv (.pointer (some ⟨rg, 0, none⟩))] 192 (0, 0)))
    (hZ : w.heap[zg]? = some (.cells (dCells t 0) 63 (0, 0))) (hne : zg ≠ mg) (hB : Below w0.heap.size w0 w) (hg1 : w0.heap.size ≤ rg) (hg2 : w0.heap.size ≤ mg) (hf : Fr (fun k => k = rg ∨ k = mg) w w')
    (hr : Rdr w' rg (dσ t (k + 1))) (hm : w'.heap[mg]? = some (.cells (dCells t (k + 1)) 63 (0, 0))) : DecS w0 zg mg rg pg t wfv w' (.int .i64 ((k + 1 : Nat) : Int)) :=
  ⟨k + 1, rfl, by omega, hr, hm, hf.obj hP (fun e => e.elim (hR.ne hP (by decide)) (obj_ne hP hM (by decide))), hf.obj hZ (fun e => e.elim (hR.ne hZ (by decide)) hne), hne,
    hB.trans (hf.below _ hB.size (fun i hi e => by omega)), hg1, hg2⟩
def decR (t : List UInt8) : Value := if dOk t then .tuple #[.agg (dCells t 5), .int .i64 0] else .tuple #[.agg (dCells [] 0), .int .i64 3]
theorem decR_ok {t : List UInt8} (h : dOk t) : decR t = .tuple #[.agg (dCells t 5), .int .i64 0] := if_pos h
theorem decR_no {t : List UInt8} (h : ¬ dOk t) : decR t = .tuple #[.agg (dCells [] 0), .int .i64 3] := if_neg h
def decV (l : List UInt8) : Value :=
  match openL l with
  | none => .tuple #[.agg (dCells [] 0), .int .i64 4]
  | some t => decR t
set_option maxHeartbeats 4000000 in
set_option maxRecDepth 100000 in
theorem decode_any (s : ByteArray) (w : World) (h4 : 4 ≤ s.size) (hs : s.size ≤ 1073741824) :
    Calls Try.prog 49 #[.string s] w fun e w' => e = .returned (decV s.data.toList) ∧ Below w.heap.size w w' := by
  rcases ho : openL s.data.toList with _ | t
  · have hv : openV s.data.toList = .tuple #[.string ⟨#[]⟩, .int .i64 4] := by unfold openV; rw [ho]
    have hd : decV s.data.toList = .tuple #[.agg #[.int .i64 0, .int .i64 0, .int .i64 0, .int .i64 0, .string ⟨#[]⟩], .int .i64 4] := by unfold decV; rw [ho]; rfl
    have HV := hide hv
    rw [hd]
    clear ho hd hv
    go_enter Try.func49, Try.ntmps49
    go_wp2_with fail
    refine (open_long s _ h4 (by omega)).mono ?_
    rintro e w1 ⟨rfl, hb1⟩
    rw [HV.out]
    have hz := obj_below (obj_new w _) hb1
    have z0 := obj_cell hz 0
    have z1 := obj_cell hz 1
    have z2 := obj_cell hz 2
    have z3 := obj_cell hz 3
    have z4 := obj_cell hz 4
    have f0 := obj_frozen hz 0
    have f1 := obj_frozen hz 1
    have f2 := obj_frozen hz 2
    have f3 := obj_frozen hz 3
    have f4 := obj_frozen hz 4
    simp only [List.getElem?_toArray, List.getElem?_cons_zero, List.getElem?_cons_succ] at z0 z1 z2 z3 z4
    have HB1 := hide hb1
    clear hb1 hz
    have HZ := hide (obj_below (obj_new w (.cells #[.int .i64 0, .int .i64 0, .int .i64 0, .int .i64 0, .string ⟨#[]⟩] 63)) HB1.out)
    go_wp2
    refine bodyPost_ret (res_ct rfl _ _ w.heap.size 63 #[.int .i64 0, .int .i64 0, .int .i64 0, .int .i64 0, .string ⟨#[]⟩] _ _ rfl (five_set HZ.out _ _ _ _ _) Try.underlying63 rfl (by kernel_rfl)) rfl ⟨rfl, ?_⟩
    exact five_below (((Below.refl _ _).alloc (Nat.le_refl _) _).trans (HB1.out.mono (by simp))) (Nat.le_refl _)
  · have hv : openV s.data.toList = .tuple #[.string ⟨t.toArray⟩, .int .i64 0] := by unfold openV; rw [ho]
    have hd : decV s.data.toList = decR t := by unfold decV; rw [ho]
    have htl : t.length ≤ 1073741824 := by
      unfold openL at ho
      split at ho
      · simp only [Option.some.injEq] at ho
        rw [← ho, List.length_take]
        have := size_list s
        omega
      · cases ho
    have HV := hide hv
    have hlen := dσ_len t _ htl
    have HLen := hide hlen
    rw [hd]
    clear ho hd hv hlen
    go_enter Try.func49, Try.ntmps49
    go_wp2_with fail
    refine (open_long s _ h4 (by omega)).mono ?_
    rintro e w1 ⟨rfl, hb1⟩
    rw [HV.out]
    have HZ1 := hide (obj_below (obj_new w (.cells #[.int .i64 0, .int .i64 0, .int .i64 0, .int .i64 0, .string ⟨#[]⟩] 63)) hb1)
    have HB1 := hide hb1
    have hs1 := hb1.size
    simp only [World.size_alloc] at hs1
    clear hb1
    go_wp2_with fail
    refine (newReader_any _ _).mono ?_
    rintro e w2 ⟨rfl, hr2, hb2⟩
    have HR2 := hide hr2
    have HZ2 := hide (obj_below HZ1.out hb2)
    have HB2 := hide hb2
    have hs2 := hb2.size
    have HM2 := hide (obj_new w2 (.cells #[.int .i64 0, .int .i64 0, .int .i64 0, .int .i64 0, .string ⟨#[]⟩] 63))
    clear hb2 hr2
    go_wp2_with fail
    refine (parts_any _ _ _ _).mono ?_
    rintro e w3 ⟨q, rfl, hq, hp3, hb3⟩
    obtain ⟨wfv, hwf⟩ : ∃ wfv, wfv = Value.pointer none := ⟨_, rfl⟩
    rw [← hwf] at hp3
    have hal : Below w2.heap.size w2 (w2.alloc (.cells #[.int .i64 0, .int .i64 0, .int .i64 0, .int .i64 0, .string ⟨#[]⟩] 63)) := (Below.refl _ _).alloc (Nat.le_refl _) _
    have hsz3 := hb3.size
    simp only [World.size_alloc] at hsz3
    have hb3' : Below w2.heap.size w2 w3 := hal.trans (hb3.mono (by simp))
    have hstart : DecS w w.heap.size w2.heap.size w1.heap.size q t wfv w3 (.int .i64 0) :=
      ⟨0, rfl, by omega, HR2.out.below hb3', obj_below HM2.out hb3, hp3, obj_below HZ2.out hb3', by omega,
        (((Below.refl _ _).alloc (Nat.le_refl _) _).trans (HB1.out.mono (by simp))).trans ((HB2.out.mono (by omega)).trans (hb3'.mono (by omega))), by omega, by omega⟩
    have HS := hide hstart
    clear hstart hb3 hb3' hal hp3 hq hwf hsz3
    go_wp2_with fail
    go_loopw [9, 25] (fun _ i wr => DecS w w.heap.size w2.heap.size w1.heap.size q t wfv wr i) (fun _ i _ => 5 - (intOf i).toNat)
    case atStart => exact HS.out
    case round =>
      obtain ⟨k, rfl, hk, hR, hM, hP, hZ, hne, hB, hg1, hg2⟩ := hrel
      have p0 := obj_cell hP 0
      have p1 := obj_cell hP 1
      have p2 := obj_cell hP 2
      have p3 := obj_cell hP 3
      have p4 := obj_cell hP 4
      simp only [List.getElem?_toArray, List.getElem?_cons_zero, List.getElem?_cons_succ, fInt, fStr] at p0 p1 p2 p3 p4
      have HRr := hide hR
      have HMr := hide hM
      have HPr := hide hP
      have HBr := hide hB
      have HZr := hide hZ
      have HNE := hide hne
      clear hR hM hP hB hZ hne
      have mt255 := mt255
      have mt259 := mt259
      rcases k with _ | _ | _ | _ | _ | k
      · go_wp2_with fail
        refine (takeByte_any w2.heap.size w1.heap.size 0 _ (some t) (dCells t 0) (by simp [dCells]) _ HRr.out (HLen.out 0 (by omega)) HMr.out).mono ?_
        rintro e w4 ⟨rfl, hr4, hm4, hf4⟩
        have hst : DecS w w.heap.size w2.heap.size w1.heap.size q t wfv w4 (.int .i64 ((0 + 1 : Nat) : Int)) := decS_next 0 (by omega) HRr.out HMr.out HPr.out HZr.out HNE.out HBr.out hg1 hg2 hf4 hr4 (by simpa [dCells, dK, dF, dT, dI, dB] using hm4)
        have HST := hide hst
        clear hst hr4 hm4 hf4
        go_wp2
        go_roundw
        case rel => exact HST.out
        case measure => simp [intOf]
      · go_wp2_with fail
        refine (takeByte_any w2.heap.size w1.heap.size 1 _ (d1 t) (dCells t 1) (by simp [dCells]) _ HRr.out (HLen.out 1 (by omega)) HMr.out).mono ?_
        rintro e w4 ⟨rfl, hr4, hm4, hf4⟩
        have hst : DecS w w.heap.size w2.heap.size w1.heap.size q t wfv w4 (.int .i64 ((1 + 1 : Nat) : Int)) := decS_next 1 (by omega) HRr.out HMr.out HPr.out HZr.out HNE.out HBr.out hg1 hg2 hf4 hr4 (by simpa [dCells, dK, dF, dT, dI, dB] using hm4)
        have HST := hide hst
        clear hst hr4 hm4 hf4
        go_wp2
        go_roundw
        case rel => exact HST.out
        case measure => simp [intOf]
      · go_wp2_with fail
        refine (takeByte_any w2.heap.size w1.heap.size 2 _ (d2 t) (dCells t 2) (by simp [dCells]) _ HRr.out (HLen.out 2 (by omega)) HMr.out).mono ?_
        rintro e w4 ⟨rfl, hr4, hm4, hf4⟩
        have hst : DecS w w.heap.size w2.heap.size w1.heap.size q t wfv w4 (.int .i64 ((2 + 1 : Nat) : Int)) := decS_next 2 (by omega) HRr.out HMr.out HPr.out HZr.out HNE.out HBr.out hg1 hg2 hf4 hr4 (by simpa [dCells, dK, dF, dT, dI, dB] using hm4)
        have HST := hide hst
        clear hst hr4 hm4 hf4
        go_wp2
        go_roundw
        case rel => exact HST.out
        case measure => simp [intOf]
      · go_wp2_with fail
        refine (takeInt_any w2.heap.size w1.heap.size 3 _ (d3 t) (dCells t 3) (by simp [dCells]) _ HRr.out (HLen.out 3 (by omega)) HMr.out).mono ?_
        rintro e w4 ⟨rfl, hr4, hm4, hf4⟩
        have hst : DecS w w.heap.size w2.heap.size w1.heap.size q t wfv w4 (.int .i64 ((3 + 1 : Nat) : Int)) := decS_next 3 (by omega) HRr.out HMr.out HPr.out HZr.out HNE.out HBr.out hg1 hg2 hf4 hr4 (by simpa [dCells, dK, dF, dT, dI, dB] using hm4)
        have HST := hide hst
        clear hst hr4 hm4 hf4
        go_wp2
        go_roundw
        case rel => exact HST.out
        case measure => simp [intOf]
      · go_wp2_with fail
        refine (takeText_any w2.heap.size w1.heap.size 4 _ (d4 t) (dCells t 4) (by simp [dCells]) _ HRr.out (HLen.out 4 (by omega)) HMr.out).mono ?_
        rintro e w4 ⟨rfl, hr4, hm4, hf4⟩
        have hst : DecS w w.heap.size w2.heap.size w1.heap.size q t wfv w4 (.int .i64 ((4 + 1 : Nat) : Int)) := decS_next 4 (by omega) HRr.out HMr.out HPr.out HZr.out HNE.out HBr.out hg1 hg2 hf4 hr4 (by simpa [dCells, dK, dF, dT, dI, dB] using hm4)
        have HST := hide hst
        clear hst hr4 hm4 hf4
        go_wp2
        go_roundw
        case rel => exact HST.out
        case measure => simp [intOf]
      · obtain rfl : k = 0 := by omega
        have hmr := HMr.out
        have m0 := obj_cell hmr 0
        have m1 := obj_cell hmr 1
        have m2 := obj_cell hmr 2
        have m3 := obj_cell hmr 3
        have m4 := obj_cell hmr 4
        simp only [dCells, List.getElem?_toArray, List.getElem?_cons_zero, List.getElem?_cons_succ] at m0 m1 m2 m3 m4
        clear hmr
        by_cases hdone : d5 t = some []
        · have hrd := HRr.out
          go_wp2_with fail
          refine (rDone_any _ _ _ HRr.out).mono ?_
          rintro e w4 ⟨rfl, hb4⟩
          rw [show rDone (dσ t (0 + 1 + 1 + 1 + 1 + 1)) = 0 from by show rDone (d5 t) = 0; rw [hdone]; rfl]
          have hm := obj_below HMr.out hb4
          have m0 := obj_cell hm 0
          have m1 := obj_cell hm 1
          have m2 := obj_cell hm 2
          have m3 := obj_cell hm 3
          have m4 := obj_cell hm 4
          simp only [dCells, List.getElem?_toArray, List.getElem?_cons_zero, List.getElem?_cons_succ] at m0 m1 m2 m3 m4
          have HM4 := hide hm
          have HB4 := hide (HBr.out.trans (hb4.mono HBr.out.size))
          have HZ4 := hide (obj_below HZr.out hb4)
          have HD := hide hdone
          clear hm hb4 hrd hdone
          go_wp2_with fail
          refine (check_any (dK t) (dF t) (dT t) (dI t) ⟨(dB t).toArray⟩ _ (by rw [str_size]; have := rText_len t (HLen.out 4 (by omega)); unfold dB; omega)).mono ?_
          rintro e w5 ⟨rfl, hb5⟩
          have HM5 := hide (obj_below HM4.out hb5)
          have HB5 := hide (HB4.out.trans (hb5.mono HB4.out.size))
          have HZ5 := hide (obj_below HZ4.out hb5)
          clear hb5 m0 m1 m2 m3 m4
          have hm := HM5.out
          have hz := HZ5.out
          have m0 := obj_cell hm 0
          have m1 := obj_cell hm 1
          have m2 := obj_cell hm 2
          have m3 := obj_cell hm 3
          have m4 := obj_cell hm 4
          have z0 := obj_cell hz 0
          have f0 := obj_frozen hz 0
          have z1 := obj_cell hz 1
          have f1 := obj_frozen hz 1
          have z2 := obj_cell hz 2
          have f2 := obj_frozen hz 2
          have z3 := obj_cell hz 3
          have f3 := obj_frozen hz 3
          have z4 := obj_cell hz 4
          have f4 := obj_frozen hz 4
          simp only [dCells, List.getElem?_toArray, List.getElem?_cons_zero, List.getElem?_cons_succ] at m0 m1 m2 m3 m4 z0 z1 z2 z3 z4
          clear hm hz
          by_cases hch : chk (dK t) (dF t) (dT t) (dI t) (dB t).length = 0
          · have HOK := hide (show dOk t from ⟨HD.out, hch⟩)
            rw [show chk (dK t) (dF t) (dT t) (dI t) (⟨(dB t).toArray⟩ : ByteArray).size = 0 from hch]
            clear hch
            go_wp2
            rw [decR_ok HOK.out]
            refine bodyPost_ret (res_ct rfl _ _ w.heap.size 63 (dCells t 5) _ _ rfl (five_set (a := .int .i64 0) (b := .int .i64 0) (c := .int .i64 0) (d := .int .i64 0) (e := .string ⟨#[]⟩) HZ5.out _ _ _ _ _) Try.underlying63 rfl (by kernel_rfl)) rfl ⟨rfl, ?_⟩
            exact five_below HB5.out (Nat.le_refl _)
          · have HOK := hide (show ¬ dOk t from fun h => hch h.2)
            obtain ⟨c, hc⟩ : ∃ c, c = chk (dK t) (dF t) (dT t) (dI t) (dB t).length := ⟨_, rfl⟩
            rw [show chk (dK t) (dF t) (dT t) (dI t) (⟨(dB t).toArray⟩ : ByteArray).size = c from hc.symm]
            rw [← hc] at hch
            have hch1 : (c != 0) = true := by simp [hch]
            clear hch hc
            go_wp2
            rw [decR_no HOK.out]
            refine bodyPost_ret (res_ct rfl _ _ w.heap.size 63 (dCells [] 0) _ _ rfl (five_set (a := .int .i64 0) (b := .int .i64 0) (c := .int .i64 0) (d := .int .i64 0) (e := .string ⟨#[]⟩) HZ5.out _ _ _ _ _) Try.underlying63 rfl (by kernel_rfl)) rfl ⟨rfl, ?_⟩
            exact five_below HB5.out (Nat.le_refl _)
        · go_wp2_with fail
          refine (rDone_any _ _ _ HRr.out).mono ?_
          rintro e w4 ⟨rfl, hb4⟩
          rw [show rDone (dσ t (0 + 1 + 1 + 1 + 1 + 1)) = 3 from by show rDone (d5 t) = 3; unfold rDone; rw [if_neg hdone]]
          have HOK := hide (show ¬ dOk t from fun h => hdone h.1)
          have hz := obj_below HZr.out hb4
          have z0 := obj_cell hz 0
          have f0 := obj_frozen hz 0
          have z1 := obj_cell hz 1
          have f1 := obj_frozen hz 1
          have z2 := obj_cell hz 2
          have f2 := obj_frozen hz 2
          have z3 := obj_cell hz 3
          have f3 := obj_frozen hz 3
          have z4 := obj_cell hz 4
          have f4 := obj_frozen hz 4
          simp only [dCells, List.getElem?_toArray, List.getElem?_cons_zero, List.getElem?_cons_succ] at z0 z1 z2 z3 z4
          have HB4 := hide (HBr.out.trans (hb4.mono HBr.out.size))
          have HZ4 := hide hz
          clear hz hb4 hdone
          go_wp2
          rw [decR_no HOK.out]
          refine bodyPost_ret (res_ct rfl _ _ w.heap.size 63 (dCells [] 0) _ _ rfl (five_set (a := .int .i64 0) (b := .int .i64 0) (c := .int .i64 0) (d := .int .i64 0) (e := .string ⟨#[]⟩) HZ4.out _ _ _ _ _) Try.underlying63 rfl (by kernel_rfl)) rfl ⟨rfl, ?_⟩
          exact five_below HB4.out (Nat.le_refl _)
end Go.Proofs.Ytljmaicobafgkaa
end
section
/- The walks of the references of layers 2 and 3. -/
namespace Go.Proofs.Ytljmaicobafgkaa
open Go.RowKit

theorem and1_u32 (n : Nat) : bits .and .u32 (n : Int) 1 = ((n % 2 : Nat) : Int) := by
  show IntKind.u32.wrap ((BitVec.ofInt 32 (n : Int) &&& BitVec.ofInt 32 1).toNat : Int) = _
  have h : (BitVec.ofInt 32 (n : Int) &&& BitVec.ofInt 32 1).toNat = n % 2 := by
    rw [BitVec.toNat_and, BitVec.ofInt_natCast, BitVec.toNat_ofNat, show (BitVec.ofInt 32 1).toNat = 1 from by decide, Nat.and_one_is_mod]
    omega
  rw [h]
  show ((n % 2 : Nat) : Int) % 4294967296 = _
  omega
theorem xor0_u32 (a : Nat) (ha : a < 4294967296) : bits .xor .u32 (a : Int) 0 = (a : Int) := by
  show IntKind.u32.wrap ((BitVec.ofInt 32 (a : Int) ^^^ BitVec.ofInt 32 0).toNat : Int) = _
  have h : (BitVec.ofInt 32 (a : Int) ^^^ BitVec.ofInt 32 0).toNat = a := by
    rw [BitVec.toNat_xor, BitVec.ofInt_natCast, BitVec.toNat_ofNat]
    simp
    omega
  rw [h]
  show (a : Int) % 4294967296 = _
  omega
theorem xor_comm_u32 (a b : Int) : bits .xor .u32 a b = bits .xor .u32 b a := by
  show IntKind.u32.wrap ((BitVec.ofInt 32 a ^^^ BitVec.ofInt 32 b).toNat : Int) = IntKind.u32.wrap ((BitVec.ofInt 32 b ^^^ BitVec.ofInt 32 a).toNat : Int)
  rw [BitVec.xor_comm]
theorem bitStep_odd (c : Int) (_h0 : 0 ≤ c) (h : (bits .and .u32 c 1 == 1) = true) : bits .xor .u32 (c / 2) 3988292384 = bitStep c := by
  have h' : bits .and .u32 c 1 = 1 := by simpa using h
  unfold bitStep
  rw [h', show (-1 : Int) % 4294967296 = 4294967295 from by decide, show bits .and .u32 3988292384 4294967295 = 3988292384 from by decide]
theorem bitStep_even (c : Int) (h0 : 0 ≤ c) (h1 : c < 4294967296) (h : (bits .and .u32 c 1 == 1) = false) : c / 2 = bitStep c := by
  obtain ⟨n, rfl⟩ : ∃ n : Nat, c = n := ⟨c.toNat, by omega⟩
  have h' : bits .and .u32 (n : Int) 1 = 0 := by
    have e : ¬ bits .and .u32 (n : Int) 1 = 1 := by simpa using h
    rw [and1_u32] at e ⊢
    omega
  unfold bitStep
  rw [h', show (-0 : Int) % 4294967296 = 0 from by decide, show bits .and .u32 3988292384 0 = 0 from by decide, show ((n : Int) / 2) = ((n / 2 : Nat) : Int) from by omega, xor0_u32 _ (by omega)]

def StepS (c0 : Int) (c k : Value) : Prop :=
  ∃ (m : Nat) (d : Int), k = .int .i64 m ∧ c = .int .u32 d ∧ m ≤ 8 ∧ 0 ≤ d ∧ d < 4294967296 ∧ Hid (bitSteps (8 - m) d = bitSteps 8 c0)
theorem step_any (c : Int) (b : Int) (w : World) :
    Calls Try.prog 190 #[.int .u32 c, .int .u8 b] w fun e w' => e = .returned (.int .u32 (bitSteps 8 (bits .xor .u32 c (b % 4294967296)))) ∧ w = w' := by
  go_enter Try.func190, Try.ntmps190
  go_wp2
  go_loop [0, 5, 6] (fun q k _ => StepS (bits .xor .u32 c (b % 4294967296)) q k) (fun _ k _ => 8 - (intOf k).toNat)
  case atStart => exact ⟨0, _, rfl, rfl, by omega, (bits_u32 _ _ _).1, (bits_u32 _ _ _).2, rfl⟩
  case round =>
    obtain ⟨m, d, rfl, rfl, hm, hd0, hd1, HD⟩ := hrel
    by_cases hlt : m < 8
    · cases ho : (bits .and .u32 d 1 == 1) with
      | true =>
        have HO := hide ho
        go_wp2
        go_round
        case rel =>
          refine ⟨m + 1, bitStep d, by go_num, ?_, by omega, (bits_u32 _ _ _).1, (bits_u32 _ _ _).2, ?_⟩
          · rw [← bitStep_odd d hd0 HO.out]
          · have := HD.out
            rw [show 8 - m = (8 - (m + 1)) + 1 from by omega] at this
            exact this
        case measure => simp [intOf]; omega
      | false =>
        have HO := hide ho
        go_wp2
        go_round
        case rel =>
          refine ⟨m + 1, bitStep d, by go_num, ?_, by omega, (bits_u32 _ _ _).1, (bits_u32 _ _ _).2, ?_⟩
          · rw [← bitStep_even d hd0 hd1 HO.out]
          · have := HD.out
            rw [show 8 - m = (8 - (m + 1)) + 1 from by omega] at this
            exact this
        case measure => simp [intOf]; omega
    · obtain rfl : m = 8 := by omega
      go_wp2
      go_ret
      exact ⟨by rw [← HD.out]; rfl, rfl⟩

theorem sumInit_eq : sumInit = 4294967295 := by decide
theorem rMore_any (s : ByteArray) (w : World) (_hs : s.size ≤ 9223372036854775807) :
    Calls Try.prog 185 #[.int .u32 0, .string s] w fun e w' => e = .returned (.int .u32 (crc s.data.toList)) ∧ w = w' := by
  go_enter Try.func185, Try.ntmps185
  go_wp2
  rw [show bits .xor .u32 0 4294967295 = 4294967295 from by decide]
  go_loop [5, 6] (fun c i => ∃ (k : Nat) (d : Int), k ≤ s.size ∧ i = .int .i64 k ∧ c = .int .u32 d ∧ Hid (d = sumOn sumInit (s.data.toList.take k)) ∧ 0 ≤ d ∧ d < 4294967296) (fun _ i => s.size - (intOf i).toNat)
  case atStart => exact ⟨0, _, by omega, rfl, rfl, by rw [sumInit_eq]; exact rfl, by omega, by omega⟩
  case round =>
    obtain ⟨k, d, hk, rfl, rfl, hd, hd0, hd1⟩ := hrel
    by_cases hlt : k < s.size
    · have hn := bitSteps_range 8 (bits .xor .u32 d ((s[k].toNat : Int) % 4294967296)) (bits_u32 _ _ _).1 (bits_u32 _ _ _).2
      have hx : Hid (bitSteps 8 (bits .xor .u32 d ((s[k].toNat : Int) % 4294967296)) = sumOn sumInit (s.data.toList.take (k + 1))) := by
        rw [take_snoc_bytes s k hlt, sumOn_snoc, ← hd.out]
        exact rfl
      go_wp2_with fail
      refine (step_any _ _ _).mono ?_
      rintro e w' ⟨rfl, rfl⟩
      go_wp2
      go_round
      case rel => exact ⟨k + 1, _, by omega, by go_num, rfl, hx, hn.1, hn.2⟩
      case measure => simp [intOf]; omega
    · go_wp2
      go_ret
      have e : s.data.toList.take k = s.data.toList := List.take_of_length_le (by simp; omega)
      have hd' := hd.out
      rw [e] at hd'
      refine ⟨?_, rfl⟩
      rw [hd', crc, xor_comm_u32]
      rfl
theorem rSum_any (s : ByteArray) (w : World) (hs : s.size ≤ 9223372036854775807) :
    Calls Try.prog 172 #[.string s] w fun e w' => e = .returned (.int .u32 (crc s.data.toList)) ∧ w = w' := by
  go_enter Try.func172, Try.ntmps172
  go_wp2_with (go_at_call 185; refine (rMore_any _ _ hs).mono ?_; rintro e w' ⟨rfl, rfl⟩)
  go_ret
  exact ⟨rfl, rfl⟩
set_option maxRecDepth 100000 in
theorem rFour_any (n : Int) (w : World) (h0 : 0 ≤ n) (h1 : n < 4294967296) :
    Calls Try.prog 130 #[.int .u32 n] w fun e w' => e = .returned (.string ⟨(le4 n).toArray⟩) ∧ Below w.heap.size w w' := by
  have hcv : (convert 77 9 (.slice (some ⟨w.heap.size, 0, none⟩) 4 4)).run Try.prog (w.alloc (.cells #[.int .u8 (n % 256), .int .u8 (n / 256 % 256), .int .u8 (n / 65536 % 256), .int .u8 (n / 16777216)] 5)) = .ok (.string ⟨(le4 n).toArray⟩) (w.alloc (.cells #[.int .u8 (n % 256), .int .u8 (n / 256 % 256), .int .u8 (n / 65536 % 256), .int .u8 (n / 16777216)] 5)) := by
    refine conv_str (le4 n) rfl (fun ad ha j u hu => ?_) (fun h => by simp at h)
    cases ha
    rw [add_plain', Nat.zero_add, obj_cell (obj_new w _) j]
    rw [← hu]
    match j with
    | 0 => simp [byteVals, le4, ub_val]
    | 1 => simp [byteVals, le4, ub_val]
    | 2 => simp [byteVals, le4, ub_val]
    | 3 => simp [byteVals, le4, ub_small (n := n / 16777216) (by omega) (by omega)]
    | j + 4 => simp [byteVals, le4]
  have HC := hide hcv
  clear hcv
  go_enter Try.func130, Try.ntmps130
  go_wp2
  rw [HC.out]
  go_wp2
  go_ret
  exact ⟨rfl, (Below.refl _ _).alloc (Nat.le_refl _) _⟩
theorem rSeal_any (s : ByteArray) (w : World) (hs : s.size ≤ 4611686018427387904) :
    Calls Try.prog 118 #[.string s] w fun e w' => e = .returned (.string (sealS s)) ∧ Below w.heap.size w w' := by
  have hsz : s.size + (⟨(le4 (crc s.data.toList)).toArray⟩ : ByteArray).size ≤ 9223372036854775807 := by rw [str_size]; show s.size + 4 ≤ _; omega
  go_enter Try.func118, Try.ntmps118
  go_wp2_with (first | (go_at_call 172; refine (rSum_any _ _ (by omega)).mono ?_; rintro e w' ⟨rfl, rfl⟩) | (go_at_call 130; refine (rFour_any _ _ (crc_range _).1 (crc_range _).2).mono ?_; rintro e w' ⟨rfl, hb⟩))
  go_ret
  exact ⟨rfl, hb⟩
theorem rOpen_short (s : ByteArray) (w : World) (hs : s.size < 4) :
    Calls Try.prog 121 #[.string s] w fun e w' => e = .returned (.tuple #[.string ⟨#[]⟩, .int .i64 2]) ∧ Below w.heap.size w w' := by
  have h : (s.size : Int) - 4 < 0 := by omega
  go_enter Try.func121, Try.ntmps121
  go_wp2
  go_ret2
  exact ⟨rfl, Below.refl _ _⟩
theorem seal_eq (s : ByteArray) (n : Nat) (hs : s.size = n + 4) : ((sealS ⟨(s.data.toList.take n).toArray⟩).toList == s.toList) = (le4 (crc (s.data.toList.take n)) == s.data.toList.drop n) := by
  have e : (sealS ⟨(s.data.toList.take n).toArray⟩).toList = s.data.toList.take n ++ le4 (crc (s.data.toList.take n)) := by
    rw [Lib.toList_data, sealS]
    simp
  rw [e, Lib.toList_data]
  rw [Bool.eq_iff_iff]
  simp only [beq_iff_eq]
  constructor
  · intro h
    have h2 := congrArg (List.drop n) h
    rw [List.drop_append_of_le_length (by rw [List.length_take]; have := size_list s; omega), List.drop_of_length_le (by rw [List.length_take]; omega)] at h2
    exact h2
  · intro h
    rw [h, List.take_append_drop]
theorem rOpen_long (s : ByteArray) (w : World) (hs0 : 4 ≤ s.size) (hs2 : s.size ≤ 4611686018427387904) :
    Calls Try.prog 121 #[.string s] w fun e w' => e = .returned (openV s.data.toList) ∧ Below w.heap.size w w' := by
  obtain ⟨n, hs⟩ : ∃ n, s.size = n + 4 := ⟨s.size - 4, by omega⟩
  have h : (s.size : Int) - 4 = (n : Int) := by omega
  have h1 : (n : Int) ≤ s.size := by omega
  have h2 : n ≤ s.size := by omega
  have h3 : ((n : Int) < 0) = False := by simp
  have HS := hide hs
  clear hs
  have hy : s.extract 0 n = ⟨(s.data.toList.take n).toArray⟩ := by rw [extract_str]; simp
  have hz : (⟨(s.data.toList.take n).toArray⟩ : ByteArray).size ≤ 4611686018427387904 := by
    rw [str_size, List.length_take]
    have := size_list s
    omega
  have hq := seal_eq s n HS.out
  by_cases he : le4 (crc (s.data.toList.take n)) = s.data.toList.drop n
  · have hv := hide (openV_yes (l := s.data.toList) HS.out he)
    have hd : ((sealS ⟨(s.data.toList.take n).toArray⟩).toList == s.toList) = true := by rw [hq]; simp [he]
    have hd1 : (!((sealS ⟨(s.data.toList.take n).toArray⟩).toList == s.toList)) = false := by rw [hd]; rfl
    clear he hq
    rw [hv.out]
    go_enter Try.func121, Try.ntmps121
    go_wp2_with fail
    refine (rSeal_any _ _ hz).mono ?_
    rintro e w' ⟨rfl, hb⟩
    go_wp2
    go_ret2
    exact ⟨rfl, hb⟩
  · have hv := hide (openV_no (l := s.data.toList) HS.out he)
    have hd : ((sealS ⟨(s.data.toList.take n).toArray⟩).toList == s.toList) = false := by rw [hq]; simp [he]
    have hd1 : (!((sealS ⟨(s.data.toList.take n).toArray⟩).toList == s.toList)) = true := by rw [hd]; rfl
    clear he hq
    rw [hv.out]
    go_enter Try.func121, Try.ntmps121
    go_wp2_with fail
    refine (rSeal_any _ _ hz).mono ?_
    rintro e w' ⟨rfl, hb⟩
    go_wp2
    go_ret2
    exact ⟨rfl, hb⟩
end Go.Proofs.Ytljmaicobafgkaa
end
section
/- The walks of the references of layer 3. -/
namespace Go.Proofs.Ytljmaicobafgkaa
open Go.RowKit

theorem OwB.nil (w : World) (B : Nat) : OwB w B (.slice none 0 0) [] := World.ownsRow_nil w B 5 1
theorem conv_own {w : World} {B : Nat} {v : Value} {l : List UInt8} (h : OwB w B v l) : (convert 77 9 v).run Try.prog w = .ok (.string ⟨l.toArray⟩) w := by
  obtain ⟨A, c, rfl, _, hr⟩ := h.rd
  exact conv_str l rfl (fun ad e => (hr.2 ad e).2) hr.1
def RIntS (w0 : World) (z : Nat) (w : World) (v uv : Value) : Prop :=
  ∃ (l : List UInt8) (u : Nat), uv = .int .u64 u ∧ l ++ numN u = numN z ∧ u < 18446744073709551616 ∧ Below w0.heap.size w0 w ∧ OwB w w0.heap.size v l
theorem or128' (u : Nat) : bits .or .u8 (bits .and .u64 (u : Int) 127 % 256) 128 = ((UInt8.ofNat (u % 128 + 128)).toNat : Int) := by
  have h1 : bits .and .u64 (u : Int) 127 = ((u % 128 : Nat) : Int) := by
    show IntKind.u64.wrap ((BitVec.ofInt 64 (u : Int) &&& BitVec.ofInt 64 127).toNat : Int) = _
    have h : (BitVec.ofInt 64 (u : Int) &&& BitVec.ofInt 64 127).toNat = u % 128 := by
      rw [BitVec.toNat_and, BitVec.ofInt_natCast, BitVec.toNat_ofNat, show (BitVec.ofInt 64 127).toNat = 2 ^ 7 - 1 from by decide, Nat.and_two_pow_sub_one_eq_mod]
      omega
    rw [h]
    show ((u % 128 : Nat) : Int) % 18446744073709551616 = _
    omega
  have h2 := or128 (u % 128)
  rw [h1, h2]
  rw [Nat.mod_mod]
theorem zz_neg (n : Int) (h0 : -9223372036854775808 ≤ n) (h1 : n < 0) : bits .xor .u64 (IntKind.u64.wrap (IntKind.u64.wrap n * 2)) 18446744073709551615 = (zz n : Int) := by
  have h := zig n h0 (by omega)
  rw [show n / 9223372036854775808 = -1 from by omega, show IntKind.u64.wrap (-1) = 18446744073709551615 from by decide] at h
  exact h
theorem zz_pos (n : Int) (h0 : 0 ≤ n) (_h1 : n ≤ 9223372036854775807) : n * 2 = (zz n : Int) := by
  simp only [zz, h0, if_true]
  omega
set_option maxRecDepth 100000 in
theorem rInt_pos (n : Int) (w : World) (h0 : 0 ≤ n) (h1 : n ≤ 9223372036854775807) :
    Calls Try.prog 110 #[.int .i64 n] w fun e w' => e = .returned (.string ⟨(num n).toArray⟩) ∧ Below w.heap.size w w' := by
  have hz := zz_lt n (by omega) (by omega)
  go_enter Try.func110, Try.ntmps110
  go_wp2
  rw [zz_pos n h0 h1]
  go_loopw [3, 4] (fun uv v wr => RIntS w (zz n) wr v uv) (fun uv _ _ => (intOf uv).toNat)
  case atStart => exact ⟨[], zz n, rfl, rfl, hz, Below.refl _ _, OwB.nil _ _⟩
  case round =>
    obtain ⟨l1, u, rfl, hlist, hu, hbel, hv⟩ := hrel
    have hlen2 : l1.length ≤ 10 := by
      have h3 := congrArg List.length hlist
      have h2 := numN_ten (zz n) hz
      simp only [List.length_append] at h3
      omega
    have HL := hide hlist
    clear hlist
    by_cases hsm : u < 128
    · obtain ⟨v', w', hrun, hown, hb⟩ := app_own hv (UInt8.ofNat u) (by omega) hbel.size 77
      have hx : ((UInt8.ofNat u).toNat : Int) = (u : Int) := by simp only [UInt8.toNat_ofNat']; omega
      rw [hx] at hrun
      have hfin : l1 ++ [UInt8.ofNat u] = num n := by rw [← numN_small hsm]; exact HL.out
      rw [hfin] at hown
      have hcv := conv_own hown
      have HB := hide (hbel.trans hb)
      clear hv hx hfin hbel hb hown
      go_wp2_with (at_builtin; refine wpList_append_run rfl (.tmp 23) (.tmp 26) 77 77 rfl rfl rfl hrun ?_)
      go_ret
      exact ⟨rfl, HB.out⟩
    · obtain ⟨v', w', hrun, hown, hb⟩ := app_own hv (UInt8.ofNat (u % 128 + 128)) (by omega) hbel.size 77
      rw [← or128'] at hrun
      have hnext : (l1 ++ [UInt8.ofNat (u % 128 + 128)]) ++ numN (u / 128) = numN (zz n) := by rw [List.append_assoc, List.singleton_append, ← numN_large hsm]; exact HL.out
      have HN := hide hnext
      have HB := hide (hbel.trans hb)
      clear hv hnext hbel hb
      go_wp2_with (at_builtin; refine wpList_append_run rfl (.tmp 14) (.tmp 19) 77 77 rfl rfl rfl hrun ?_)
      go_roundw
      case rel => exact ⟨_, u / 128, by go_num, HN.out, by omega, HB.out, hown⟩
      case measure => simp [intOf]; omega
set_option maxRecDepth 100000 in
theorem rInt_neg (n : Int) (w : World) (h0 : -9223372036854775808 ≤ n) (h1 : n < 0) :
    Calls Try.prog 110 #[.int .i64 n] w fun e w' => e = .returned (.string ⟨(num n).toArray⟩) ∧ Below w.heap.size w w' := by
  have hz := zz_lt n (by omega) (by omega)
  go_enter Try.func110, Try.ntmps110
  go_wp2
  rw [zz_neg n h0 h1]
  go_loopw [3, 4] (fun uv v wr => RIntS w (zz n) wr v uv) (fun uv _ _ => (intOf uv).toNat)
  case atStart => exact ⟨[], zz n, rfl, rfl, hz, Below.refl _ _, OwB.nil _ _⟩
  case round =>
    obtain ⟨l1, u, rfl, hlist, hu, hbel, hv⟩ := hrel
    have hlen2 : l1.length ≤ 10 := by
      have h3 := congrArg List.length hlist
      have h2 := numN_ten (zz n) hz
      simp only [List.length_append] at h3
      omega
    have HL := hide hlist
    clear hlist
    by_cases hsm : u < 128
    · obtain ⟨v', w', hrun, hown, hb⟩ := app_own hv (UInt8.ofNat u) (by omega) hbel.size 77
      have hx : ((UInt8.ofNat u).toNat : Int) = (u : Int) := by simp only [UInt8.toNat_ofNat']; omega
      rw [hx] at hrun
      have hfin : l1 ++ [UInt8.ofNat u] = num n := by rw [← numN_small hsm]; exact HL.out
      rw [hfin] at hown
      have hcv := conv_own hown
      have HB := hide (hbel.trans hb)
      clear hv hx hfin hbel hb hown
      go_wp2_with (at_builtin; refine wpList_append_run rfl (.tmp 23) (.tmp 26) 77 77 rfl rfl rfl hrun ?_)
      go_ret
      exact ⟨rfl, HB.out⟩
    · obtain ⟨v', w', hrun, hown, hb⟩ := app_own hv (UInt8.ofNat (u % 128 + 128)) (by omega) hbel.size 77
      rw [← or128'] at hrun
      have hnext : (l1 ++ [UInt8.ofNat (u % 128 + 128)]) ++ numN (u / 128) = numN (zz n) := by rw [List.append_assoc, List.singleton_append, ← numN_large hsm]; exact HL.out
      have HN := hide hnext
      have HB := hide (hbel.trans hb)
      clear hv hnext hbel hb
      go_wp2_with (at_builtin; refine wpList_append_run rfl (.tmp 14) (.tmp 19) 77 77 rfl rfl rfl hrun ?_)
      go_roundw
      case rel => exact ⟨_, u / 128, by go_num, HN.out, by omega, HB.out, hown⟩
      case measure => simp [intOf]; omega
theorem r3Int_any (n : Int) (w : World) (h0 : -9223372036854775808 ≤ n) (h1 : n ≤ 9223372036854775807) :
    Calls Try.prog 110 #[.int .i64 n] w fun e w' => e = .returned (.string ⟨(num n).toArray⟩) ∧ Below w.heap.size w w' := by
  by_cases h : 0 ≤ n
  · exact rInt_pos n w h h1
  · exact rInt_neg n w h0 (by omega)
theorem str_app (a : List UInt8) (s : ByteArray) : (⟨a.toArray⟩ : ByteArray) ++ s = ⟨(a ++ s.data.toList).toArray⟩ := by
  rw [← str_eta (_ ++ s)]
  simp
theorem r3Text_any (s : ByteArray) (w : World) (hs : s.size ≤ 4611686018427387904) :
    Calls Try.prog 119 #[.string s] w fun e w' => e = .returned (.string ⟨(textB s.data.toList).toArray⟩) ∧ Below w.heap.size w w' := by
  have hz := zz_lt (s.size : Int) (by omega) (by omega)
  have hlen := numN_ten _ hz
  have hsz : (⟨(num (s.size : Int)).toArray⟩ : ByteArray).size + s.size ≤ 9223372036854775807 := by rw [str_size]; unfold num; omega
  clear hz hlen
  go_enter Try.func119, Try.ntmps119
  go_wp2_with fail
  refine (r3Int_any s.size _ (by omega) (by omega)).mono ?_
  rintro e w' ⟨rfl, hb⟩
  go_wp2
  go_ret
  refine ⟨?_, hb⟩
  have e : (⟨(num (s.size : Int)).toArray⟩ : ByteArray) ++ s = ⟨(textB s.data.toList).toArray⟩ := by
    rw [str_app]
    rfl
  exact congrArg (fun x => Ending.returned (.string x)) e

theorem set_two (w : World) (g : Nat) (a b c d : Value) (h : w.heap[g]? = some (.cells #[a, b] 184 (0, 0))) : ((w.setCell ⟨g, 0, none⟩ c).setCell ⟨g, 1, none⟩ d).heap[g]? = some (.cells #[c, d] 184 (0, 0)) := by
  have h1 := obj_set h 0 c
  have h2 := obj_set (w := w.setCell ⟨g, 0, none⟩ c) h1 1 d
  simpa using h2
theorem res_c {P : Program} {fn : Func} {p : Tmp} {ty : TypeId} (h : fn.results = #[.cell p ty]) (tmps : Array Value) (w : World) (g : Nat) (t : TypeId) (cs : Array Value) (fr : Nat × Nat) (d : TypeDesc)
    (hp : tmps.getD p undef = .pointer (some ⟨g, 0, none⟩)) (hg : w.heap[g]? = some (.cells cs t fr)) (hu : P.underlying ty = some d) (hd : (match d with | .struct _ | .array _ _ => true | _ => false) = true)
    (hi : (P.info? ty).map (·.size) = some cs.size) : (results fn tmps).run P w = .ok (.agg cs) w := by
  have hp' : tmps[p]?.getD undef = .pointer (some ⟨g, 0, none⟩) := by simpa using hp
  simp [results, h, hp', asAddr, run_loadVar_row w g t ty cs fr d hg hu hd hi]
theorem bad_any (x y : Value) (w : World) :
    Calls Try.prog 167 #[.agg #[x, y]] w fun e w' => e = .returned (.agg (rdrCells none)) ∧ Below w.heap.size w w' := by
  go_enter Try.func167, Try.ntmps167
  go_wp2
  refine bodyPost_ret (res_c rfl _ _ (w.heap.size + 1) 184 (rdrCells none) _ _ rfl (by have := obj_new (w.alloc (.cells #[x, y] 184)) (.cells (rdrCells none) 184); simpa [rdrCells] using this) Try.underlying184 rfl (by kernel_rfl)) rfl ⟨rfl, ?_⟩
  exact ((Below.refl _ _).alloc (Nat.le_refl _) _).alloc (by simp) _
theorem end_any (σ : Option (List UInt8)) (w : World) :
    Calls Try.prog 115 #[.agg (rdrCells σ)] w fun e w' => e = .returned (.int .i64 (rDone σ)) ∧ Below w.heap.size w w' := by
  rcases σ with _ | l
  · unfold rdrCells
    go_enter Try.func115, Try.ntmps115
    go_wp2
    go_ret
    exact ⟨rfl, (Below.refl _ _).alloc (Nat.le_refl _) _⟩
  · rcases l with _ | ⟨b, r⟩
    · unfold rdrCells
      go_enter Try.func115, Try.ntmps115
      go_wp2
      go_ret
      exact ⟨rfl, (Below.refl _ _).alloc (Nat.le_refl _) _⟩
    · unfold rdrCells
      go_enter Try.func115, Try.ntmps115
      go_wp2
      go_ret
      refine ⟨?_, (Below.refl _ _).alloc (Nat.le_refl _) _⟩
      simp [rDone]
theorem obj_new2 (w : World) (a o : Obj) : ((w.alloc a).alloc o).heap[w.heap.size + 1]? = some o := by
  have := obj_new (w.alloc a) o
  rw [World.size_alloc] at this
  exact this
theorem grp_bad' {b : UInt8} {r : List UInt8} {k : Nat} {u : Int} (h : (k = 9 ∧ 1 < b.toNat) ∨ (0 < k ∧ b.toNat = 0)) : grpR (b :: r) k u = none := by
  rw [grpR]
  split
  · rfl
  · split
    · rcases h with ⟨rfl, h⟩ | ⟨h1, h2⟩
      · exact grp_over
      · omega
    · rw [if_pos (by omega)]
set_option maxHeartbeats 4000000 in
set_option maxRecDepth 100000 in
theorem takeInt_any3 (l : List UInt8) (w : World) (hl : l.length ≤ 1073741824) :
    Calls Try.prog 114 #[.agg #[.string ⟨l.toArray⟩, .bool false]] w fun e w' => e = .returned (.tuple #[.agg (rdrCells (rInt (some l)).2), .int .i64 (rInt (some l)).1]) ∧ Below w.heap.size w w' := by
  have hz : (⟨l.toArray⟩ : ByteArray).size = l.length := rfl
  go_enter Try.func114, Try.ntmps114
  go_wp2
  go_loop [4, 5, 6, 7] (fun q i _ _ => GrpS ⟨l.toArray⟩ q i) (fun _ i _ _ => 10 - (intOf i).toNat)
  case atStart => exact ⟨0, 0, rfl, rfl, by omega, by omega, by omega, by omega, by exact rfl⟩
  case round =>
    obtain ⟨k, u, rfl, rfl, hk, hk2, hu0, hu1, HK⟩ := hrel
    have hnew := obj_new (w.alloc (.cells #[.string ⟨l.toArray⟩, .bool false] 184)) (.cells #[.string ⟨#[]⟩, .bool false] 184)
    rw [World.size_alloc] at hnew
    have hbw : Below w.heap.size w ((w.alloc (.cells #[.string ⟨l.toArray⟩, .bool false] 184)).alloc (.cells #[.string ⟨#[]⟩, .bool false] 184)) := ((Below.refl _ _).alloc (Nat.le_refl _) _).alloc (by simp) _
    have HN := hide hnew
    have HBW := hide hbw
    clear hnew hbw
    by_cases hlt : k < l.length ∧ k < 10
    · obtain ⟨hlt, hlt2⟩ := hlt
      have hks : k < (⟨l.toArray⟩ : ByteArray).size := hlt
      have hd := drop_at ⟨l.toArray⟩ k hks
      obtain ⟨m, hm⟩ : ∃ m : Nat, m = ((⟨l.toArray⟩ : ByteArray)[k]'hks).toNat := ⟨_, rfl⟩
      have hm256 : m < 256 := by rw [hm]; exact UInt8.toNat_lt _
      have hb : IntKind.u64.wrap (((⟨l.toArray⟩ : ByteArray)[k]'hks).toNat : Int) = (m : Int) := by rw [wr_byte, hm]
      have HD := hide hd
      have HM := hide hm
      clear hd hm
      by_cases hbad : (k = 9 ∧ 1 < m) ∨ (0 < k ∧ m = 0)
      · have hres := HK.out
        rw [HD.out] at hres
        have hr0 : rInt (some l) = (0, none) := by
          have hn : grpR l 0 0 = none := by
            rw [← hres]
            exact grp_bad' (by rw [← HM.out]; exact hbad)
          simp only [rInt, hn]
        have HR := hide hr0
        clear hr0 hres
        have hcase : (9 ≤ k ∧ 1 < m) ∨ (k < 9 ∧ 0 < k ∧ m = 0) ∨ (9 ≤ k ∧ m = 0) := by omega
        clear hbad
        rcases hcase with ⟨h1, h2⟩ | ⟨h1, h2, h3⟩ | ⟨h1, h3⟩
        · go_wp2_with fail
          refine (bad_any _ _ _).mono ?_
          rintro e w2 ⟨rfl, hb2⟩
          have HB2 := hide hb2
          clear hb2
          unfold rdrCells
          have hr2 := HB2.out
          have hz := obj_below HN.out hr2
          have z0 := obj_cell hz 0
          have z1 := obj_cell hz 1
          have f0 := obj_frozen hz 0
          have f1 := obj_frozen hz 1
          simp only [List.getElem?_toArray, List.getElem?_cons_zero, List.getElem?_cons_succ] at z0 z1
          have HZ := hide hz
          clear hz hr2
          go_wp2
          refine bodyPost_ret (res_ct rfl _ _ (w.heap.size + 1) 184 (rdrCells none) _ _ rfl (set_two _ _ _ _ _ _ HZ.out) Try.underlying184 rfl (by kernel_rfl)) rfl ⟨by rw [HR.out]; rfl, ?_⟩
          exact ((HBW.out.trans (HB2.out.mono (by simp; omega))).setCell (p := ⟨w.heap.size + 1, 0, none⟩) (by simp) _).setCell (p := ⟨w.heap.size + 1, 1, none⟩) (by simp) _
        · obtain rfl := h3
          go_wp2_with fail
          refine (bad_any _ _ _).mono ?_
          rintro e w2 ⟨rfl, hb2⟩
          have HB2 := hide hb2
          clear hb2
          unfold rdrCells
          have hr2 := HB2.out
          have hz := obj_below HN.out hr2
          have z0 := obj_cell hz 0
          have z1 := obj_cell hz 1
          have f0 := obj_frozen hz 0
          have f1 := obj_frozen hz 1
          simp only [List.getElem?_toArray, List.getElem?_cons_zero, List.getElem?_cons_succ] at z0 z1
          have HZ := hide hz
          clear hz hr2
          go_wp2
          refine bodyPost_ret (res_ct rfl _ _ (w.heap.size + 1) 184 (rdrCells none) _ _ rfl (set_two _ _ _ _ _ _ HZ.out) Try.underlying184 rfl (by kernel_rfl)) rfl ⟨by rw [HR.out]; rfl, ?_⟩
          exact ((HBW.out.trans (HB2.out.mono (by simp; omega))).setCell (p := ⟨w.heap.size + 1, 0, none⟩) (by simp) _).setCell (p := ⟨w.heap.size + 1, 1, none⟩) (by simp) _
        · obtain rfl := h3
          go_wp2_with fail
          refine (bad_any _ _ _).mono ?_
          rintro e w2 ⟨rfl, hb2⟩
          have HB2 := hide hb2
          clear hb2
          unfold rdrCells
          have hr2 := HB2.out
          have hz := obj_below HN.out hr2
          have z0 := obj_cell hz 0
          have z1 := obj_cell hz 1
          have f0 := obj_frozen hz 0
          have f1 := obj_frozen hz 1
          simp only [List.getElem?_toArray, List.getElem?_cons_zero, List.getElem?_cons_succ] at z0 z1
          have HZ := hide hz
          clear hz hr2
          go_wp2
          refine bodyPost_ret (res_ct rfl _ _ (w.heap.size + 1) 184 (rdrCells none) _ _ rfl (set_two _ _ _ _ _ _ HZ.out) Try.underlying184 rfl (by kernel_rfl)) rfl ⟨by rw [HR.out]; rfl, ?_⟩
          exact ((HBW.out.trans (HB2.out.mono (by simp; omega))).setCell (p := ⟨w.heap.size + 1, 0, none⟩) (by simp) _).setCell (p := ⟨w.heap.size + 1, 1, none⟩) (by simp) _
      · by_cases h128 : m < 128
        · have hres := HK.out
          have hg : gStep u ((⟨l.toArray⟩ : ByteArray)[k]'hks) k = bits .or .u64 u (IntKind.u64.wrap (bits .and .u64 (m : Int) 127 * 2 ^ (7 * k))) := by unfold gStep; rw [hb]
          rw [HD.out, grp_end hlt2 (fun h1 => by rw [hb]; omega) (fun h1 => by rw [hb]; omega) (by rw [hb]; omega), hg] at hres
          obtain ⟨v, hv⟩ : ∃ v, v = bits .or .u64 u (IntKind.u64.wrap (bits .and .u64 (m : Int) 127 * 2 ^ (7 * k))) := ⟨_, rfl⟩
          have hv0 : 0 ≤ v ∧ v < 18446744073709551616 := by rw [hv]; exact bits_u64 _ _ _
          obtain ⟨q, hq⟩ : ∃ q : Nat, v = q := ⟨v.toNat, by omega⟩
          have hr1 : rInt (some l) = (unz q, some (l.drop (k + 1))) := by
            rw [← hv, hq] at hres
            simp only [rInt, ← hres]
          have hvq : bits .or .u64 u (IntKind.u64.wrap (bits .and .u64 (m : Int) 127 * 2 ^ (7 * k))) = (q : Int) := by rw [← hv, hq]
          have hqb : q < 18446744073709551616 := by omega
          have hand := and1_u64 q hqb
          have HR1 := hide hr1
          have hx : (⟨l.toArray⟩ : ByteArray).extract (k + 1) l.length = ⟨(l.drop (k + 1)).toArray⟩ := ext_drop l (k + 1)
          clear hres hr1 hg hv hv0 hq
          have hc3 : (k < 9 ∧ 0 < k ∧ 0 < m) ∨ (k < 1) ∨ (k = 9 ∧ m = 1) := by omega
          clear hbad
          by_cases hpar : q % 2 = 1
          · rw [hpar] at hand
            have HPAR := hide hpar
            clear hpar
            rcases hc3 with ⟨hk1, hk2, hk3⟩ | hk1 | ⟨hk1, hk2⟩
            · go_wp2
              refine bodyPost_ret (res_ct rfl _ _ (w.heap.size + 1) 184 (rdrCells (some (l.drop (k + 1)))) _ _ rfl (obj_new2 _ _ _) Try.underlying184 rfl (by kernel_rfl)) rfl ⟨?_, ?_⟩
              · rw [HR1.out]
                refine congrArg (fun x => Ending.returned (.tuple #[.agg (rdrCells (some (l.drop (k + 1)))), .int .i64 x])) ?_
                have := HPAR.out
                show _ = unz q
                unfold unz
                split <;> omega
              · exact ((Below.refl _ _).alloc (Nat.le_refl _) _).alloc (by simp) _
            · go_wp2
              refine bodyPost_ret (res_ct rfl _ _ (w.heap.size + 1) 184 (rdrCells (some (l.drop (k + 1)))) _ _ rfl (obj_new2 _ _ _) Try.underlying184 rfl (by kernel_rfl)) rfl ⟨?_, ?_⟩
              · rw [HR1.out]
                refine congrArg (fun x => Ending.returned (.tuple #[.agg (rdrCells (some (l.drop (k + 1)))), .int .i64 x])) ?_
                have := HPAR.out
                show _ = unz q
                unfold unz
                split <;> omega
              · exact ((Below.refl _ _).alloc (Nat.le_refl _) _).alloc (by simp) _
            · have e1 : ((k : Int) == 9) = true := by simp; omega
              have e2 : ((m : Int) == 0) = false := by simp; omega
              have e3 : decide ((1 : Int) < (m : Int)) = false := by simp; omega
              have e4 : (m : Int) < 128 := by omega
              have e5 : 0 < k := by omega
              clear hk1 hk2
              go_wp2
              refine bodyPost_ret (res_ct rfl _ _ (w.heap.size + 1) 184 (rdrCells (some (l.drop (k + 1)))) _ _ rfl (obj_new2 _ _ _) Try.underlying184 rfl (by kernel_rfl)) rfl ⟨?_, ?_⟩
              · rw [HR1.out]
                refine congrArg (fun x => Ending.returned (.tuple #[.agg (rdrCells (some (l.drop (k + 1)))), .int .i64 x])) ?_
                have := HPAR.out
                show _ = unz q
                unfold unz
                split <;> omega
              · exact ((Below.refl _ _).alloc (Nat.le_refl _) _).alloc (by simp) _
          · rw [show q % 2 = 0 from by omega] at hand
            have HPAR := hide hpar
            clear hpar
            rcases hc3 with ⟨hk1, hk2, hk3⟩ | hk1 | ⟨hk1, hk2⟩
            · go_wp2
              refine bodyPost_ret (res_ct rfl _ _ (w.heap.size + 1) 184 (rdrCells (some (l.drop (k + 1)))) _ _ rfl (obj_new2 _ _ _) Try.underlying184 rfl (by kernel_rfl)) rfl ⟨?_, ?_⟩
              · rw [HR1.out]
                refine congrArg (fun x => Ending.returned (.tuple #[.agg (rdrCells (some (l.drop (k + 1)))), .int .i64 x])) ?_
                have := HPAR.out
                show _ = unz q
                unfold unz
                split <;> omega
              · exact ((Below.refl _ _).alloc (Nat.le_refl _) _).alloc (by simp) _
            · go_wp2
              refine bodyPost_ret (res_ct rfl _ _ (w.heap.size + 1) 184 (rdrCells (some (l.drop (k + 1)))) _ _ rfl (obj_new2 _ _ _) Try.underlying184 rfl (by kernel_rfl)) rfl ⟨?_, ?_⟩
              · rw [HR1.out]
                refine congrArg (fun x => Ending.returned (.tuple #[.agg (rdrCells (some (l.drop (k + 1)))), .int .i64 x])) ?_
                have := HPAR.out
                show _ = unz q
                unfold unz
                split <;> omega
              · exact ((Below.refl _ _).alloc (Nat.le_refl _) _).alloc (by simp) _
            · have e1 : ((k : Int) == 9) = true := by simp; omega
              have e2 : ((m : Int) == 0) = false := by simp; omega
              have e3 : decide ((1 : Int) < (m : Int)) = false := by simp; omega
              have e4 : (m : Int) < 128 := by omega
              have e5 : 0 < k := by omega
              clear hk1 hk2
              go_wp2
              refine bodyPost_ret (res_ct rfl _ _ (w.heap.size + 1) 184 (rdrCells (some (l.drop (k + 1)))) _ _ rfl (obj_new2 _ _ _) Try.underlying184 rfl (by kernel_rfl)) rfl ⟨?_, ?_⟩
              · rw [HR1.out]
                refine congrArg (fun x => Ending.returned (.tuple #[.agg (rdrCells (some (l.drop (k + 1)))), .int .i64 x])) ?_
                have := HPAR.out
                show _ = unz q
                unfold unz
                split <;> omega
              · exact ((Below.refl _ _).alloc (Nat.le_refl _) _).alloc (by simp) _
        · have hnext : grpR (l.drop (k + 1)) (k + 1) (gStep u ((⟨l.toArray⟩ : ByteArray)[k]'hks) k) = grpR l 0 0 := by
            have hres := HK.out
            rw [HD.out, grp_go hlt2 (by rw [hb]; omega)] at hres
            exact hres
          have HNX := hide hnext
          have hg : gStep u ((⟨l.toArray⟩ : ByteArray)[k]'hks) k = bits .or .u64 u (IntKind.u64.wrap (bits .and .u64 (m : Int) 127 * 2 ^ (7 * k))) := by unfold gStep; rw [hb]
          have HG := hide hg
          have h9 : k < 9 := by omega
          clear hbad hnext hg
          go_wp2
          all_goals refine ⟨⟨k + 1, _, by go_num, rfl, by show k + 1 ≤ l.length; omega, by omega, (bits_u64 _ _ _).1, (bits_u64 _ _ _).2, by rw [← HG.out]; exact HNX.out⟩, by simp [intOf]; omega⟩
    · have hres : rInt (some l) = (0, none) := by
        have h0 := HK.out
        have hn : grpR (l.drop k) k u = none := by
          by_cases h : k < l.length
          · have h10 : k = 10 := by omega
            subst h10
            exact grp_over
          · rw [List.drop_of_length_le (by omega)]
            rfl
        have hn2 : grpR l 0 0 = none := by rw [← h0]; exact hn
        simp only [rInt, hn2]
      have HR := hide hres
      clear hres
      rcases Nat.lt_or_ge k l.length with h | h
      · have h10 : 10 ≤ k := by omega
        clear hlt
        · go_wp2_with fail
          refine (bad_any _ _ _).mono ?_
          rintro e w2 ⟨rfl, hb2⟩
          have HB2 := hide hb2
          clear hb2
          unfold rdrCells
          have hr2 := HB2.out
          have hz := obj_below HN.out hr2
          have z0 := obj_cell hz 0
          have z1 := obj_cell hz 1
          have f0 := obj_frozen hz 0
          have f1 := obj_frozen hz 1
          simp only [List.getElem?_toArray, List.getElem?_cons_zero, List.getElem?_cons_succ] at z0 z1
          have HZ := hide hz
          clear hz hr2
          go_wp2
          refine bodyPost_ret (res_ct rfl _ _ (w.heap.size + 1) 184 (rdrCells none) _ _ rfl (set_two _ _ _ _ _ _ HZ.out) Try.underlying184 rfl (by kernel_rfl)) rfl ⟨by rw [HR.out]; rfl, ?_⟩
          exact ((HBW.out.trans (HB2.out.mono (by simp; omega))).setCell (p := ⟨w.heap.size + 1, 0, none⟩) (by simp) _).setCell (p := ⟨w.heap.size + 1, 1, none⟩) (by simp) _
      · clear hlt
        · go_wp2_with fail
          refine (bad_any _ _ _).mono ?_
          rintro e w2 ⟨rfl, hb2⟩
          have HB2 := hide hb2
          clear hb2
          unfold rdrCells
          have hr2 := HB2.out
          have hz := obj_below HN.out hr2
          have z0 := obj_cell hz 0
          have z1 := obj_cell hz 1
          have f0 := obj_frozen hz 0
          have f1 := obj_frozen hz 1
          simp only [List.getElem?_toArray, List.getElem?_cons_zero, List.getElem?_cons_succ] at z0 z1
          have HZ := hide hz
          clear hz hr2
          go_wp2
          refine bodyPost_ret (res_ct rfl _ _ (w.heap.size + 1) 184 (rdrCells none) _ _ rfl (set_two _ _ _ _ _ _ HZ.out) Try.underlying184 rfl (by kernel_rfl)) rfl ⟨by rw [HR.out]; rfl, ?_⟩
          exact ((HBW.out.trans (HB2.out.mono (by simp; omega))).setCell (p := ⟨w.heap.size + 1, 0, none⟩) (by simp) _).setCell (p := ⟨w.heap.size + 1, 1, none⟩) (by simp) _
end Go.Proofs.Ytljmaicobafgkaa
end
