/- Chapter 14, calls: the walk of CallsTries. -/
import Derived.Test.YthcnoamgkkbkcaaCaX1
namespace Go.Proofs.Ythcnoamgkkbkcaa
open Go.RowKit

def tK (body : ByteArray) (st : Int) (i : Nat) (due : Int) : Ck := ⟨0, 1, st, i, due, body, ByteArray.empty⟩
def tS (body : ByteArray) (st : Int) (i : Nat) (due : Int) : CS := ⟨0, 1, [tK body st i due]⟩
theorem try_x {body : ByteArray} {i : Nat} {due : Int} {x : List Tm} (h : COk (tS body 1 i due) x) : x = [⟨0, due⟩] := h.x1 (k := tK body 1 i due) rfl rfl
theorem try_early {body : ByteArray} {i : Nat} {due now : Int} {x : List Tm} (h : COk (tS body 1 i due) x) (hn : now < due) : cDue (tS body 1 i due) x now = (tS body 1 i due, []) := by
  rw [try_x h]
  unfold cDue
  by_cases hb : badN now
  · rw [if_pos hb]
  · rw [if_neg hb]
    have e : (tDue [⟨0, due⟩] now).2 = [] := by
      have : ¬ due ≤ now := by omega
      simp [tDue, this]
    rw [e]
    rfl
theorem try_due {body : ByteArray} {i : Nat} {due : Int} {x : List Tm} (h : COk (tS body 1 i due) x) (hb : ¬ badN due) (hi : i < 8) : cDue (tS body 1 i due) x due = (tS body 1 (i + 1) (due + wt i), [⟨1, 0, 1, 0, body⟩]) := by
  rw [try_x h]
  unfold cDue
  rw [if_neg hb]
  have e : (tDue [⟨0, due⟩] due).2 = [0] := by simp [tDue]
  rw [e]
  have e1 : cRun (tS body 1 i due).me due [0] (tS body 1 i due).L = cOne 0 due ([tK body 1 i due], []) 0 := rfl
  have e2 : cOne 0 due ([tK body 1 i due], []) 0 = (upd [tK body 1 i due] 0 (dueG due), [] ++ dueM 0 (tK body 1 i due)) := rfl
  have e3 : upd [tK body 1 i due] 0 (dueG due) = [tK body 1 (i + 1) (due + wt i)] := by
    have e5 : dueG due (tK body 1 i due) = tK body 1 (i + 1) (due + wt i) := by
      unfold dueG
      rw [if_neg (by show ¬ 8 ≤ i; omega)]
      rfl
    rw [← e5]
    rfl
  have e4 : dueM 0 (tK body 1 i due) = [⟨1, 0, 1, 0, body⟩] := by
    unfold dueM
    rw [if_neg (by show ¬ 8 ≤ i; omega)]
    rfl
  rw [e1, e2, e3, e4]
  rfl
theorem try_end {body : ByteArray} {due : Int} {x : List Tm} (h : COk (tS body 1 8 due) x) (hb : ¬ badN due) : cDue (tS body 1 8 due) x due = (tS body 3 8 due, []) := by
  rw [try_x h]
  unfold cDue
  rw [if_neg hb]
  have e : (tDue [⟨0, due⟩] due).2 = [0] := by simp [tDue]
  rw [e]
  rfl
theorem try_call {body : ByteArray} {now : Int} (hb : ¬ badN now) (hs : ¬ 4096 < body.size) : cCall (newC 0 0) 1 body now = (tS body 1 0 now, 0, 0) := by
  unfold cCall
  rw [if_neg (fun h => h.elim (fun h => by omega) (fun h => h.elim (fun h => by omega) hb)), if_neg hs, if_neg (by decide)]
  rfl
def TrS (w : World) (g t p c cm : Nat) (body : ByteArray) (wr : World) (nv wv iv : Value) : Prop :=
  ∃ (i : Nat) (due : Int), iv = .int .i64 (i : Int) ∧ nv = .int .i64 due ∧ wv = .int .i64 (wt i) ∧ i ≤ 8 ∧ 0 ≤ due ∧ due ≤ 549755813888 + 64 * i ∧ CR w w.heap.size g t p c cm (tS body 1 i due) wr
set_option maxHeartbeats 8000000 in
set_option maxRecDepth 100000 in
theorem walk_callsTries (now : Int) (body : ByteArray) (w : World) (_h0 : (Lit.int .i64 now).wf = true) (_h1 : body.size ≤ 140737488351232) :
    Calls Try.prog 4 #[.int .i64 now, .string body] w fun e w' => e = .returned (.bool true) ∧ Below w.heap.size w w' := by
  have AW := hide (fun W => awake14 W)
  by_cases h1 : now < 0
  · go_enter Try.func4, Try.ntmps4
    go_wp2_with fail
    refine (AW.out _).mono ?_
    rintro e w2 ⟨rfl, hb⟩
    go_wp2
    go_ret
    exact ⟨rfl, hb⟩
  by_cases h2 : 549755813888 < now
  · go_enter Try.func4, Try.ntmps4
    go_wp2_with fail
    refine (AW.out _).mono ?_
    rintro e w2 ⟨rfl, hb⟩
    go_wp2
    go_ret
    exact ⟨rfl, hb⟩
  by_cases h3 : 4096 < body.size
  · have h3i : (4096 : Int) < (body.size : Int) := by omega
    go_enter Try.func4, Try.ntmps4
    go_wp2_with fail
    refine (AW.out _).mono ?_
    rintro e w2 ⟨rfl, hb⟩
    go_wp2
    go_ret
    exact ⟨rfl, hb⟩
  have h3i : ¬ (4096 : Int) < (body.size : Int) := by omega
  have hnb : ¬ badN now := by unfold badN; omega
  have HN := hide (cnew_cr 0 0 w)
  have H1 := hide (fun (W : World) (g t p c cm : Nat) (h : CR w w.heap.size g t p c cm (newC 0 0) W) => ccall_cr h 1 now body)
  simp only [try_call hnb h3] at H1
  have HNOW := hide (show 0 ≤ now ∧ now ≤ 549755813888 from by omega)
  clear hnb
  go_enter Try.func4, Try.ntmps4
  go_wp2_with fail
  refine HN.out.mono ?_
  rintro e w1 ⟨g, t, p, c, cm, rfl, h1⟩
  have HC := hide h1
  clear h1
  go_wp2_with fail
  refine (H1.out _ _ _ _ _ _ HC.out).mono ?_
  rintro e w2 ⟨rfl, h2, -⟩
  have HS := hide (show TrS w g t p c cm body w2 (.int .i64 now) (.int .i64 4) (.int .i64 0) from ⟨0, now, rfl, rfl, rfl, by omega, by have := HNOW.out; omega, by have := HNOW.out; omega, h2⟩)
  clear h2 HC HN H1
  go_wp2_with fail
  go_loopw [0, 8, 9] (fun nv wv iv wr => TrS w g t p c cm body wr nv wv iv) (fun _ _ iv _ => 8 - (intOf iv).toNat)
  case atStart => exact HS.out
  case round =>
    obtain ⟨i, due, rfl, rfl, rfl, hi, hd0, hd1, hcr⟩ := hrel
    have hwt := wt_rng i
    have hnb : ¬ badN due := by unfold badN; omega
    have hw1 : IntKind.i64.wrap (due - 1) = due - 1 := by rw [IntKind.wrap_i64]; omega
    have H2 := hide ((cdue_cr hcr (due - 1)).mono (R' := fun e W' => ∃ ov, e = .returned ov ∧ kM.row W' wr.heap.size ov [] ∧ CR w w.heap.size g t p c cm (tS body 1 i due) W') (fun e W' hh => by
      obtain ⟨ov, x, hx, rfl, h1, h2, -⟩ := hh
      rw [try_early hx (by omega)] at h1 h2
      exact ⟨ov, rfl, h1, h2⟩))
    rcases Nat.lt_or_ge i 8 with hi8 | hi8
    · have hii : (i : Int) < 8 := by omega
      have H3 := hide (fun (W : World) (h : CR w w.heap.size g t p c cm (tS body 1 i due) W) => (cdue_cr h due).mono (R' := fun e W' => ∃ ov, e = .returned ov ∧ kM.row W' W.heap.size ov [⟨1, 0, 1, 0, body⟩] ∧ CR w w.heap.size g t p c cm (tS body 1 (i + 1) (due + wt i)) W') (fun e W' hh => by
        obtain ⟨ov, x, hx, rfl, h1, h2, -⟩ := hh
        rw [try_due hx hnb hi8] at h1 h2
        exact ⟨ov, rfl, h1, h2⟩))
      obtain ⟨wv, hwv⟩ : ∃ z, z = wt i := ⟨_, rfl⟩
      obtain ⟨w2v, hw2v⟩ : ∃ z, z = wt (i + 1) := ⟨_, rfl⟩
      have hmn := fun ts ty => run_mn ts ty (2 * wv) 64 w2v (by rw [hw2v, hwv]; rfl)
      have hw3 : IntKind.i64.wrap (2 * wv) = 2 * wv := by rw [IntKind.wrap_i64]; omega
      have hw2 : IntKind.i64.wrap (due + wv) = due + wv := by rw [IntKind.wrap_i64]; omega
      have HRES := hide (fun (W : World) (h : CR w w.heap.size g t p c cm (tS body 1 (i + 1) (due + wt i)) W) => show TrS w g t p c cm body W (.int .i64 (due + wv)) (.int .i64 w2v) (.int .i64 ((i : Int) + 1)) from ⟨i + 1, due + wt i, rfl, by rw [hwv], by rw [hw2v], hi8, by omega, by omega, h⟩)
      rw [← hwv]
      clear hcr hnb hwt hwv hw2v hd0 hd1
      go_wp2_with fail
      refine H2.out.mono ?_
      rintro e w3 ⟨o3, rfl, hr3, h3⟩
      obtain ⟨A3, c3, er⟩ := EK.row_slice hr3
      simp only [List.length_nil] at er
      subst er
      have HC3 := hide h3
      clear h3 hr3
      go_wp2_with fail
      refine (H3.out _ HC3.out).mono ?_
      rintro e w4 ⟨o4, rfl, hr4, h4⟩
      obtain ⟨A4, c4, er⟩ := EK.row_slice hr4
      simp only [List.length_cons, List.length_nil, Nat.zero_add] at er
      subst er
      have HR2 := hide (HRES.out _ h4)
      clear h4 hr4
      go_wp2_with fail
      exact ⟨HR2.out, by simp only [intOf]; omega⟩
    · obtain rfl : i = 8 := by omega
      have HST := hide (fun (W : World) (h : CR w w.heap.size g t p c cm (tS body 1 8 due) W) => cstate_cr h 0)
      have HST3 := hide (fun (W : World) (h : CR w w.heap.size g t p c cm (tS body 3 8 due) W) => cstate_cr h 0)
      have e1 : cState (tS body 1 8 due) 0 = (1, ByteArray.empty) := rfl
      have e3 : cState (tS body 3 8 due) 0 = (3, ByteArray.empty) := rfl
      simp only [e1] at HST
      simp only [e3] at HST3
      have H2b := hide (fun (W : World) (h : CR w w.heap.size g t p c cm (tS body 1 8 due) W) => (cdue_cr h (due - 1)).mono (R' := fun e W' => ∃ ov, e = .returned ov ∧ kM.row W' W.heap.size ov [] ∧ CR w w.heap.size g t p c cm (tS body 1 8 due) W') (fun e W' hh => by
        obtain ⟨ov, x, hx, rfl, h1, h2, -⟩ := hh
        rw [try_early hx (by omega)] at h1 h2
        exact ⟨ov, rfl, h1, h2⟩))
      have H3 := hide (fun (W : World) (h : CR w w.heap.size g t p c cm (tS body 1 8 due) W) => (cdue_cr h due).mono (R' := fun e W' => ∃ ov, e = .returned ov ∧ kM.row W' W.heap.size ov [] ∧ CR w w.heap.size g t p c cm (tS body 3 8 due) W') (fun e W' hh => by
        obtain ⟨ov, x, hx, rfl, h1, h2, -⟩ := hh
        rw [try_end hx hnb] at h1 h2
        exact ⟨ov, rfl, h1, h2⟩))
      have HOP := hide (fun (W : World) (h : CR w w.heap.size g t p c cm (tS body 3 8 due) W) => copen_cr h)
      have e4 : opens (tS body 3 8 due).L = [] := rfl
      simp only [e4] at HOP
      have HAN := hide (fun (W : World) (h : CR w w.heap.size g t p c cm (tS body 3 8 due) W) => canswer_cr h ⟨2, 1, 0, 0, ByteArray.empty⟩)
      have e5 : cAnswer (tS body 3 8 due) ⟨2, 1, 0, 0, ByteArray.empty⟩ = (tS body 3 8 due, false) := rfl
      simp only [e5] at HAN
      unfold mgC at HAN
      have HCR := hide hcr
      clear hcr hnb hwt hd0 hd1 e1 e3 e4 e5 H2
      go_wp2_with fail
      refine (HST.out _ HCR.out).mono ?_
      rintro e w3 ⟨rfl, h3, -⟩
      have HC3 := hide h3
      clear h3
      go_wp2_with fail
      refine (H2b.out _ HC3.out).mono ?_
      rintro e w4 ⟨o4, rfl, hr4, h4⟩
      obtain ⟨A4, c4, er⟩ := EK.row_slice hr4
      simp only [List.length_nil] at er
      subst er
      have HC4 := hide h4
      clear h4 hr4
      go_wp2_with fail
      refine (H3.out _ HC4.out).mono ?_
      rintro e w5 ⟨o5, rfl, hr5, h5⟩
      obtain ⟨A5, c5, er⟩ := EK.row_slice hr5
      simp only [List.length_nil] at er
      subst er
      have HC5 := hide h5
      clear h5 hr5
      go_wp2_with fail
      refine (HST3.out _ HC5.out).mono ?_
      rintro e w6 ⟨rfl, h6, -⟩
      have HC6 := hide h6
      clear h6
      go_wp2_with fail
      refine (HOP.out _ HC6.out).mono ?_
      rintro e w7 ⟨o7, rfl, hr7, h7, -⟩
      obtain ⟨A7, c7, er⟩ := EK.row_slice hr7
      simp only [List.length_nil] at er
      subst er
      have HC7 := hide h7
      clear h7 hr7
      go_wp2_with fail
      refine (HAN.out _ HC7.out).mono ?_
      rintro e w8 ⟨rfl, h8, -⟩
      have HB8 := hide h8.2.1
      clear h8
      go_wp2_with fail
      refine (AW.out _).mono ?_
      rintro e w9 ⟨rfl, hb9⟩
      have HB9 := hide (HB8.out.trans (hb9.mono HB8.out.size))
      clear hb9
      go_wp2
      go_ret
      exact ⟨rfl, HB9.out⟩
end Go.Proofs.Ythcnoamgkkbkcaa
