/- The walk of frames.Decode. -/
import Derived.Test.YtljmaicobafgkaaFrEnc
namespace Go.Proofs.Ytljmaicobafgkaa
open Go.RowKit

theorem rByte_len {σ : Option (List UInt8)} {r : List UInt8} (h : (rByte σ).2 = some r) {N : Nat} (hl : ∀ l, σ = some l → l.length ≤ N) : r.length ≤ N := by
  rcases σ with _ | l
  · simp [rByte] at h
  · rcases l with _ | ⟨b, l⟩
    · simp [rByte] at h
    · have := hl _ rfl
      simp only [rByte, Option.some.injEq] at h
      subst h
      simp only [List.length_cons] at this
      omega
/-- The reader, and the message, behind k fields. -/
def d1 (t : List UInt8) : Option (List UInt8) := (rByte (some t)).2
def d2 (t : List UInt8) : Option (List UInt8) := (rByte (d1 t)).2
def d3 (t : List UInt8) : Option (List UInt8) := (rByte (d2 t)).2
def d4 (t : List UInt8) : Option (List UInt8) := (rInt (d3 t)).2
def d5 (t : List UInt8) : Option (List UInt8) := (rText (d4 t)).2
def dσ (t : List UInt8) : Nat → Option (List UInt8)
  | 0 => some t
  | 1 => d1 t
  | 2 => d2 t
  | 3 => d3 t
  | 4 => d4 t
  | _ => d5 t
def dK (t : List UInt8) : Int := (rByte (some t)).1
def dF (t : List UInt8) : Int := (rByte (d1 t)).1
def dT (t : List UInt8) : Int := (rByte (d2 t)).1
def dI (t : List UInt8) : Int := (rInt (d3 t)).1
def dB (t : List UInt8) : List UInt8 := (rText (d4 t)).1
theorem dσ_len (t : List UInt8) (N : Nat) (h : t.length ≤ N) : ∀ k, k ≤ 4 → ∀ l, dσ t k = some l → l.length ≤ N := by
  have h0 : ∀ l, some t = some l → l.length ≤ N := fun l e => by cases e; exact h
  have h1 : ∀ l, d1 t = some l → l.length ≤ N := fun l e => rByte_len e h0
  have h2 : ∀ l, d2 t = some l → l.length ≤ N := fun l e => rByte_len e h1
  have h3 : ∀ l, d3 t = some l → l.length ≤ N := fun l e => rByte_len e h2
  have h4 : ∀ l, d4 t = some l → l.length ≤ N := fun l e => rInt_len e h3
  intro k hk
  match k with
  | 0 => exact h0
  | 1 => exact h1
  | 2 => exact h2
  | 3 => exact h3
  | 4 => exact h4
def dCells (t : List UInt8) : Nat → Array Value
  | 0 => #[.int .i64 0, .int .i64 0, .int .i64 0, .int .i64 0, .string ⟨#[]⟩]
  | 1 => #[.int .i64 (dK t), .int .i64 0, .int .i64 0, .int .i64 0, .string ⟨#[]⟩]
  | 2 => #[.int .i64 (dK t), .int .i64 (dF t), .int .i64 0, .int .i64 0, .string ⟨#[]⟩]
  | 3 => #[.int .i64 (dK t), .int .i64 (dF t), .int .i64 (dT t), .int .i64 0, .string ⟨#[]⟩]
  | 4 => #[.int .i64 (dK t), .int .i64 (dF t), .int .i64 (dT t), .int .i64 (dI t), .string ⟨#[]⟩]
  | _ => #[.int .i64 (dK t), .int .i64 (dF t), .int .i64 (dT t), .int .i64 (dI t), .string ⟨(dB t).toArray⟩]
def dOk (t : List UInt8) : Prop := d5 t = some [] ∧ chk (dK t) (dF t) (dT t) (dI t) (dB t).length = 0
instance (t : List UInt8) : Decidable (dOk t) := by unfold dOk; infer_instance

def DecS (w0 : World) (zg mg rg pg : Nat) (t : List UInt8) (wfv : Value) (w : World) (i : Value) : Prop :=
  ∃ k : Nat, i = .int .i64 k ∧ k ≤ 5 ∧ Rdr w rg (dσ t k) ∧ w.heap[mg]? = some (.cells (dCells t k) 63 (0, 0)) ∧
    w.heap[pg]? = some (.cells #[fInt ⟨mg, 0, none⟩ 129 133 wfv (.pointer (some ⟨rg, 0, none⟩)), fInt ⟨mg, 1, none⟩ 129 133 wfv (.pointer (some ⟨rg, 0, none⟩)), fInt ⟨mg, 2, none⟩ 129 133 wfv (.pointer (some ⟨rg, 0, none⟩)), fInt ⟨mg, 3, none⟩ 108 112 wfv (.pointer (some ⟨rg, 0, none⟩)), fStr ⟨mg, 4, none⟩ 168 169 wfv (.pointer (some ⟨rg, 0, none⟩))] 192 (0, 0)) ∧
    w.heap[zg]? = some (.cells (dCells t 0) 63 (0, 0)) ∧ zg ≠ mg ∧
    Below w0.heap.size w0 w ∧ w0.heap.size ≤ rg ∧ w0.heap.size ≤ mg
theorem five_set {w : World} {g : Nat} {a b c d e : Value} (h : w.heap[g]? = some (.cells #[a, b, c, d, e] 63 (0, 0))) (v0 v1 v2 v3 v4 : Value) :
    (((((w.setCell ⟨g, 0, none⟩ v0).setCell ⟨g, 1, none⟩ v1).setCell ⟨g, 2, none⟩ v2).setCell ⟨g, 3, none⟩ v3).setCell ⟨g, 4, none⟩ v4).heap[g]? = some (.cells #[v0, v1, v2, v3, v4] 63 (0, 0)) := by
  have h0 := obj_set h 0 v0
  have h1 := obj_set h0 1 v1
  have h2 := obj_set h1 2 v2
  have h3 := obj_set h2 3 v3
  have h4 := obj_set h3 4 v4
  simpa using h4
theorem five_below {B : Nat} {w w' : World} {g : Nat} (h : Below B w w') (hg : B ≤ g) {v0 v1 v2 v3 v4 : Value} :
    Below B w (((((w'.setCell ⟨g, 0, none⟩ v0).setCell ⟨g, 1, none⟩ v1).setCell ⟨g, 2, none⟩ v2).setCell ⟨g, 3, none⟩ v3).setCell ⟨g, 4, none⟩ v4) :=
  ((((h.setCell (p := ⟨g, 0, none⟩) hg v0).setCell (p := ⟨g, 1, none⟩) hg v1).setCell (p := ⟨g, 2, none⟩) hg v2).setCell (p := ⟨g, 3, none⟩) hg v3).setCell (p := ⟨g, 4, none⟩) hg v4
theorem mt255 (x : Array Value) (w : World) : (method 421 255 (.agg x) "hurdle/frames.take").run Try.prog w = .ok (237, .agg x) w := by kernel_rfl
theorem mt259 (x : Array Value) (w : World) : (method 421 259 (.agg x) "hurdle/frames.take").run Try.prog w = .ok (239, .agg x) w := by kernel_rfl
theorem rText_len (t : List UInt8) (h : ∀ l, d4 t = some l → l.length ≤ 1073741824) : (rText (d4 t)).1.length ≤ 1073741824 := by
  unfold rText
  split
  · simp
  · rename_i r hr
    have := rInt_len hr h
    split
    · rw [List.length_take]
      omega
    · simp
theorem Rdr.ne {w : World} {g k : Nat} {σ : Option (List UInt8)} {cs : Array Value} {t : TypeId} {f : Nat × Nat} (h : Rdr w g σ) (h' : w.heap[k]? = some (.cells cs t f)) (ht : t ≠ 248) : k ≠ g := obj_ne h' h ht
theorem decS_next {w0 w w' : World} {zg mg rg pg : Nat} {t : List UInt8} {wfv : Value} (k : Nat) (hk : k < 5) {σ : Option (List UInt8)} {cs : Array Value} (hR : Rdr w rg σ) (hM : w.heap[mg]? = some (.cells cs 63 (0, 0)))
    (hP : w.heap[pg]? = some (.cells #[fInt ⟨mg, 0, none⟩ 129 133 wfv (.pointer (some ⟨rg, 0, none⟩)), fInt ⟨mg, 1, none⟩ 129 133 wfv (.pointer (some ⟨rg, 0, none⟩)), fInt ⟨mg, 2, none⟩ 129 133 wfv (.pointer (some ⟨rg, 0, none⟩)), fInt ⟨mg, 3, none⟩ 108 112 wfv (.pointer (some ⟨rg, 0, none⟩)), fStr ⟨mg, 4, none⟩ 168 169 wfv (.pointer (some ⟨rg, 0, none⟩))] 192 (0, 0)))
    (hZ : w.heap[zg]? = some (.cells (dCells t 0) 63 (0, 0))) (hne : zg ≠ mg) (hB : Below w0.heap.size w0 w) (hg1 : w0.heap.size ≤ rg) (hg2 : w0.heap.size ≤ mg) (hf : Fr (fun k => k = rg ∨ k = mg) w w')
    (hr : Rdr w' rg (dσ t (k + 1))) (hm : w'.heap[mg]? = some (.cells (dCells t (k + 1)) 63 (0, 0))) : DecS w0 zg mg rg pg t wfv w' (.int .i64 ((k + 1 : Nat) : Int)) :=
  ⟨k + 1, rfl, by omega, hr, hm, hf.obj hP (fun e => e.elim (hR.ne hP (by decide)) (obj_ne hP hM (by decide))), hf.obj hZ (fun e => e.elim (hR.ne hZ (by decide)) hne), hne,
    hB.trans (hf.below _ hB.size (fun i hi e => by omega)), hg1, hg2⟩
def decR (t : List UInt8) : Value := if dOk t then .tuple #[.agg (dCells t 5), .int .i64 0] else .tuple #[.agg (dCells [] 0), .int .i64 3]
theorem decR_ok {t : List UInt8} (h : dOk t) : decR t = .tuple #[.agg (dCells t 5), .int .i64 0] := if_pos h
theorem decR_no {t : List UInt8} (h : ¬ dOk t) : decR t = .tuple #[.agg (dCells [] 0), .int .i64 3] := if_neg h
def decV (l : List UInt8) : Value :=
  match openL l with
  | none => .tuple #[.agg (dCells [] 0), .int .i64 4]
  | some t => decR t
set_option maxHeartbeats 4000000 in
set_option maxRecDepth 100000 in
theorem decode_any (s : ByteArray) (w : World) (h4 : 4 ≤ s.size) (hs : s.size ≤ 1073741824) :
    Calls Try.prog 49 #[.string s] w fun e w' => e = .returned (decV s.data.toList) ∧ Below w.heap.size w w' := by
  rcases ho : openL s.data.toList with _ | t
  · have hv : openV s.data.toList = .tuple #[.string ⟨#[]⟩, .int .i64 4] := by unfold openV; rw [ho]
    have hd : decV s.data.toList = .tuple #[.agg #[.int .i64 0, .int .i64 0, .int .i64 0, .int .i64 0, .string ⟨#[]⟩], .int .i64 4] := by unfold decV; rw [ho]; rfl
    have HV := hide hv
    rw [hd]
    clear ho hd hv
    go_enter Try.func49, Try.ntmps49
    go_wp2_with fail
    refine (open_long s _ h4 (by omega)).mono ?_
    rintro e w1 ⟨rfl, hb1⟩
    rw [HV.out]
    have hz := obj_below (obj_new w _) hb1
    have z0 := obj_cell hz 0
    have z1 := obj_cell hz 1
    have z2 := obj_cell hz 2
    have z3 := obj_cell hz 3
    have z4 := obj_cell hz 4
    have f0 := obj_frozen hz 0
    have f1 := obj_frozen hz 1
    have f2 := obj_frozen hz 2
    have f3 := obj_frozen hz 3
    have f4 := obj_frozen hz 4
    simp only [List.getElem?_toArray, List.getElem?_cons_zero, List.getElem?_cons_succ] at z0 z1 z2 z3 z4
    have HB1 := hide hb1
    clear hb1 hz
    have HZ := hide (obj_below (obj_new w (.cells #[.int .i64 0, .int .i64 0, .int .i64 0, .int .i64 0, .string ⟨#[]⟩] 63)) HB1.out)
    go_wp2
    refine bodyPost_ret (res_ct rfl _ _ w.heap.size 63 #[.int .i64 0, .int .i64 0, .int .i64 0, .int .i64 0, .string ⟨#[]⟩] _ _ rfl (five_set HZ.out _ _ _ _ _) Try.underlying63 rfl (by kernel_rfl)) rfl ⟨rfl, ?_⟩
    exact five_below (((Below.refl _ _).alloc (Nat.le_refl _) _).trans (HB1.out.mono (by simp))) (Nat.le_refl _)
  · have hv : openV s.data.toList = .tuple #[.string ⟨t.toArray⟩, .int .i64 0] := by unfold openV; rw [ho]
    have hd : decV s.data.toList = decR t := by unfold decV; rw [ho]
    have htl : t.length ≤ 1073741824 := by
      unfold openL at ho
      split at ho
      · simp only [Option.some.injEq] at ho
        rw [← ho, List.length_take]
        have := size_list s
        omega
      · cases ho
    have HV := hide hv
    have hlen := dσ_len t _ htl
    have HLen := hide hlen
    rw [hd]
    clear ho hd hv hlen
    go_enter Try.func49, Try.ntmps49
    go_wp2_with fail
    refine (open_long s _ h4 (by omega)).mono ?_
    rintro e w1 ⟨rfl, hb1⟩
    rw [HV.out]
    have HZ1 := hide (obj_below (obj_new w (.cells #[.int .i64 0, .int .i64 0, .int .i64 0, .int .i64 0, .string ⟨#[]⟩] 63)) hb1)
    have HB1 := hide hb1
    have hs1 := hb1.size
    simp only [World.size_alloc] at hs1
    clear hb1
    go_wp2_with fail
    refine (newReader_any _ _).mono ?_
    rintro e w2 ⟨rfl, hr2, hb2⟩
    have HR2 := hide hr2
    have HZ2 := hide (obj_below HZ1.out hb2)
    have HB2 := hide hb2
    have hs2 := hb2.size
    have HM2 := hide (obj_new w2 (.cells #[.int .i64 0, .int .i64 0, .int .i64 0, .int .i64 0, .string ⟨#[]⟩] 63))
    clear hb2 hr2
    go_wp2_with fail
    refine (parts_any _ _ _ _).mono ?_
    rintro e w3 ⟨q, rfl, hq, hp3, hb3⟩
    obtain ⟨wfv, hwf⟩ : ∃ wfv, wfv = Value.pointer none := ⟨_, rfl⟩
    rw [← hwf] at hp3
    have hal : Below w2.heap.size w2 (w2.alloc (.cells #[.int .i64 0, .int .i64 0, .int .i64 0, .int .i64 0, .string ⟨#[]⟩] 63)) := (Below.refl _ _).alloc (Nat.le_refl _) _
    have hsz3 := hb3.size
    simp only [World.size_alloc] at hsz3
    have hb3' : Below w2.heap.size w2 w3 := hal.trans (hb3.mono (by simp))
    have hstart : DecS w w.heap.size w2.heap.size w1.heap.size q t wfv w3 (.int .i64 0) :=
      ⟨0, rfl, by omega, HR2.out.below hb3', obj_below HM2.out hb3, hp3, obj_below HZ2.out hb3', by omega,
        (((Below.refl _ _).alloc (Nat.le_refl _) _).trans (HB1.out.mono (by simp))).trans ((HB2.out.mono (by omega)).trans (hb3'.mono (by omega))), by omega, by omega⟩
    have HS := hide hstart
    clear hstart hb3 hb3' hal hp3 hq hwf hsz3
    go_wp2_with fail
    go_loopw [9, 25] (fun _ i wr => DecS w w.heap.size w2.heap.size w1.heap.size q t wfv wr i) (fun _ i _ => 5 - (intOf i).toNat)
    case atStart => exact HS.out
    case round =>
      obtain ⟨k, rfl, hk, hR, hM, hP, hZ, hne, hB, hg1, hg2⟩ := hrel
      have p0 := obj_cell hP 0
      have p1 := obj_cell hP 1
      have p2 := obj_cell hP 2
      have p3 := obj_cell hP 3
      have p4 := obj_cell hP 4
      simp only [List.getElem?_toArray, List.getElem?_cons_zero, List.getElem?_cons_succ, fInt, fStr] at p0 p1 p2 p3 p4
      have HRr := hide hR
      have HMr := hide hM
      have HPr := hide hP
      have HBr := hide hB
      have HZr := hide hZ
      have HNE := hide hne
      clear hR hM hP hB hZ hne
      have mt255 := mt255
      have mt259 := mt259
      rcases k with _ | _ | _ | _ | _ | k
      · go_wp2_with fail
        refine (takeByte_any w2.heap.size w1.heap.size 0 _ (some t) (dCells t 0) (by simp [dCells]) _ HRr.out (HLen.out 0 (by omega)) HMr.out).mono ?_
        rintro e w4 ⟨rfl, hr4, hm4, hf4⟩
        have hst : DecS w w.heap.size w2.heap.size w1.heap.size q t wfv w4 (.int .i64 ((0 + 1 : Nat) : Int)) := decS_next 0 (by omega) HRr.out HMr.out HPr.out HZr.out HNE.out HBr.out hg1 hg2 hf4 hr4 (by simpa [dCells, dK, dF, dT, dI, dB] using hm4)
        have HST := hide hst
        clear hst hr4 hm4 hf4
        go_wp2
        go_roundw
        case rel => exact HST.out
        case measure => simp [intOf]
      · go_wp2_with fail
        refine (takeByte_any w2.heap.size w1.heap.size 1 _ (d1 t) (dCells t 1) (by simp [dCells]) _ HRr.out (HLen.out 1 (by omega)) HMr.out).mono ?_
        rintro e w4 ⟨rfl, hr4, hm4, hf4⟩
        have hst : DecS w w.heap.size w2.heap.size w1.heap.size q t wfv w4 (.int .i64 ((1 + 1 : Nat) : Int)) := decS_next 1 (by omega) HRr.out HMr.out HPr.out HZr.out HNE.out HBr.out hg1 hg2 hf4 hr4 (by simpa [dCells, dK, dF, dT, dI, dB] using hm4)
        have HST := hide hst
        clear hst hr4 hm4 hf4
        go_wp2
        go_roundw
        case rel => exact HST.out
        case measure => simp [intOf]
      · go_wp2_with fail
        refine (takeByte_any w2.heap.size w1.heap.size 2 _ (d2 t) (dCells t 2) (by simp [dCells]) _ HRr.out (HLen.out 2 (by omega)) HMr.out).mono ?_
        rintro e w4 ⟨rfl, hr4, hm4, hf4⟩
        have hst : DecS w w.heap.size w2.heap.size w1.heap.size q t wfv w4 (.int .i64 ((2 + 1 : Nat) : Int)) := decS_next 2 (by omega) HRr.out HMr.out HPr.out HZr.out HNE.out HBr.out hg1 hg2 hf4 hr4 (by simpa [dCells, dK, dF, dT, dI, dB] using hm4)
        have HST := hide hst
        clear hst hr4 hm4 hf4
        go_wp2
        go_roundw
        case rel => exact HST.out
        case measure => simp [intOf]
      · go_wp2_with fail
        refine (takeInt_any w2.heap.size w1.heap.size 3 _ (d3 t) (dCells t 3) (by simp [dCells]) _ HRr.out (HLen.out 3 (by omega)) HMr.out).mono ?_
        rintro e w4 ⟨rfl, hr4, hm4, hf4⟩
        have hst : DecS w w.heap.size w2.heap.size w1.heap.size q t wfv w4 (.int .i64 ((3 + 1 : Nat) : Int)) := decS_next 3 (by omega) HRr.out HMr.out HPr.out HZr.out HNE.out HBr.out hg1 hg2 hf4 hr4 (by simpa [dCells, dK, dF, dT, dI, dB] using hm4)
        have HST := hide hst
        clear hst hr4 hm4 hf4
        go_wp2
        go_roundw
        case rel => exact HST.out
        case measure => simp [intOf]
      · go_wp2_with fail
        refine (takeText_any w2.heap.size w1.heap.size 4 _ (d4 t) (dCells t 4) (by simp [dCells]) _ HRr.out (HLen.out 4 (by omega)) HMr.out).mono ?_
        rintro e w4 ⟨rfl, hr4, hm4, hf4⟩
        have hst : DecS w w.heap.size w2.heap.size w1.heap.size q t wfv w4 (.int .i64 ((4 + 1 : Nat) : Int)) := decS_next 4 (by omega) HRr.out HMr.out HPr.out HZr.out HNE.out HBr.out hg1 hg2 hf4 hr4 (by simpa [dCells, dK, dF, dT, dI, dB] using hm4)
        have HST := hide hst
        clear hst hr4 hm4 hf4
        go_wp2
        go_roundw
        case rel => exact HST.out
        case measure => simp [intOf]
      · obtain rfl : k = 0 := by omega
        have hmr := HMr.out
        have m0 := obj_cell hmr 0
        have m1 := obj_cell hmr 1
        have m2 := obj_cell hmr 2
        have m3 := obj_cell hmr 3
        have m4 := obj_cell hmr 4
        simp only [dCells, List.getElem?_toArray, List.getElem?_cons_zero, List.getElem?_cons_succ] at m0 m1 m2 m3 m4
        clear hmr
        by_cases hdone : d5 t = some []
        · have hrd := HRr.out
          go_wp2_with fail
          refine (rDone_any _ _ _ HRr.out).mono ?_
          rintro e w4 ⟨rfl, hb4⟩
          rw [show rDone (dσ t (0 + 1 + 1 + 1 + 1 + 1)) = 0 from by show rDone (d5 t) = 0; rw [hdone]; rfl]
          have hm := obj_below HMr.out hb4
          have m0 := obj_cell hm 0
          have m1 := obj_cell hm 1
          have m2 := obj_cell hm 2
          have m3 := obj_cell hm 3
          have m4 := obj_cell hm 4
          simp only [dCells, List.getElem?_toArray, List.getElem?_cons_zero, List.getElem?_cons_succ] at m0 m1 m2 m3 m4
          have HM4 := hide hm
          have HB4 := hide (HBr.out.trans (hb4.mono HBr.out.size))
          have HZ4 := hide (obj_below HZr.out hb4)
          have HD := hide hdone
          clear hm hb4 hrd hdone
          go_wp2_with fail
          refine (check_any (dK t) (dF t) (dT t) (dI t) ⟨(dB t).toArray⟩ _ (by rw [str_size]; have := rText_len t (HLen.out 4 (by omega)); unfold dB; omega)).mono ?_
          rintro e w5 ⟨rfl, hb5⟩
          have HM5 := hide (obj_below HM4.out hb5)
          have HB5 := hide (HB4.out.trans (hb5.mono HB4.out.size))
          have HZ5 := hide (obj_below HZ4.out hb5)
          clear hb5 m0 m1 m2 m3 m4
          have hm := HM5.out
          have hz := HZ5.out
          have m0 := obj_cell hm 0
          have m1 := obj_cell hm 1
          have m2 := obj_cell hm 2
          have m3 := obj_cell hm 3
          have m4 := obj_cell hm 4
          have z0 := obj_cell hz 0
          have f0 := obj_frozen hz 0
          have z1 := obj_cell hz 1
          have f1 := obj_frozen hz 1
          have z2 := obj_cell hz 2
          have f2 := obj_frozen hz 2
          have z3 := obj_cell hz 3
          have f3 := obj_frozen hz 3
          have z4 := obj_cell hz 4
          have f4 := obj_frozen hz 4
          simp only [dCells, List.getElem?_toArray, List.getElem?_cons_zero, List.getElem?_cons_succ] at m0 m1 m2 m3 m4 z0 z1 z2 z3 z4
          clear hm hz
          by_cases hch : chk (dK t) (dF t) (dT t) (dI t) (dB t).length = 0
          · have HOK := hide (show dOk t from ⟨HD.out, hch⟩)
            rw [show chk (dK t) (dF t) (dT t) (dI t) (⟨(dB t).toArray⟩ : ByteArray).size = 0 from hch]
            clear hch
            go_wp2
            rw [decR_ok HOK.out]
            refine bodyPost_ret (res_ct rfl _ _ w.heap.size 63 (dCells t 5) _ _ rfl (five_set (a := .int .i64 0) (b := .int .i64 0) (c := .int .i64 0) (d := .int .i64 0) (e := .string ⟨#[]⟩) HZ5.out _ _ _ _ _) Try.underlying63 rfl (by kernel_rfl)) rfl ⟨rfl, ?_⟩
            exact five_below HB5.out (Nat.le_refl _)
          · have HOK := hide (show ¬ dOk t from fun h => hch h.2)
            obtain ⟨c, hc⟩ : ∃ c, c = chk (dK t) (dF t) (dT t) (dI t) (dB t).length := ⟨_, rfl⟩
            rw [show chk (dK t) (dF t) (dT t) (dI t) (⟨(dB t).toArray⟩ : ByteArray).size = c from hc.symm]
            rw [← hc] at hch
            have hch1 : (c != 0) = true := by simp [hch]
            clear hch hc
            go_wp2
            rw [decR_no HOK.out]
            refine bodyPost_ret (res_ct rfl _ _ w.heap.size 63 (dCells [] 0) _ _ rfl (five_set (a := .int .i64 0) (b := .int .i64 0) (c := .int .i64 0) (d := .int .i64 0) (e := .string ⟨#[]⟩) HZ5.out _ _ _ _ _) Try.underlying63 rfl (by kernel_rfl)) rfl ⟨rfl, ?_⟩
            exact five_below HB5.out (Nat.le_refl _)
        · go_wp2_with fail
          refine (rDone_any _ _ _ HRr.out).mono ?_
          rintro e w4 ⟨rfl, hb4⟩
          rw [show rDone (dσ t (0 + 1 + 1 + 1 + 1 + 1)) = 3 from by show rDone (d5 t) = 3; unfold rDone; rw [if_neg hdone]]
          have HOK := hide (show ¬ dOk t from fun h => hdone h.1)
          have hz := obj_below HZr.out hb4
          have z0 := obj_cell hz 0
          have f0 := obj_frozen hz 0
          have z1 := obj_cell hz 1
          have f1 := obj_frozen hz 1
          have z2 := obj_cell hz 2
          have f2 := obj_frozen hz 2
          have z3 := obj_cell hz 3
          have f3 := obj_frozen hz 3
          have z4 := obj_cell hz 4
          have f4 := obj_frozen hz 4
          simp only [dCells, List.getElem?_toArray, List.getElem?_cons_zero, List.getElem?_cons_succ] at z0 z1 z2 z3 z4
          have HB4 := hide (HBr.out.trans (hb4.mono HBr.out.size))
          have HZ4 := hide hz
          clear hz hb4 hdone
          go_wp2
          rw [decR_no HOK.out]
          refine bodyPost_ret (res_ct rfl _ _ w.heap.size 63 (dCells [] 0) _ _ rfl (five_set (a := .int .i64 0) (b := .int .i64 0) (c := .int .i64 0) (d := .int .i64 0) (e := .string ⟨#[]⟩) HZ4.out _ _ _ _ _) Try.underlying63 rfl (by kernel_rfl)) rfl ⟨rfl, ?_⟩
          exact five_below HB4.out (Nat.le_refl _)
end Go.Proofs.Ytljmaicobafgkaa
