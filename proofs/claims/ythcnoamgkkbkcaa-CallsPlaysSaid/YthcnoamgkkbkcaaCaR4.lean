/- Chapter 14, calls: the reference: Call. -/
import Derived.Test.YthcnoamgkkbkcaaCaR2
namespace Go.Proofs.Ythcnoamgkkbkcaa
open Go.RowKit

/-- A struct is stored. -/
structure OsG (w0 : World) (b : Nat) (t : TypeId) (z c : Array Value) (e : Bool) (w : World) : Prop where
  fr : Fr (fun j => j = b) w0 w
  o : w.heap[b]? = some (.cells (if e = true then c else z) t (0, 0))
theorem OsG.start {w0 : World} {b : Nat} {t : TypeId} {z c : Array Value} (h : w0.heap[b]? = some (.cells z t (0, 0))) : OsG w0 b t z c false w0.drew := ⟨(Fr.refl _ _).drew, h⟩
theorem OsG.store {P : Program} {w0 w : World} {b : Nat} {t ty : TypeId} {z c : Array Value} (h : OsG w0 b t z c false w) (hi : (P.info? ty).map (·.size) = some c.size) (hz : z.size = c.size) (h1 : c.all (·.oneCell') = true) :
    (Instr.storeAt ty (.pointer (some ⟨b, 0, none⟩)) (.agg c)).run P w = .ok () (w.setRow b c) ∧ OsG w0 b t z c true (w.setRow b c) := by
  have ho := h.o
  rw [if_neg Bool.false_ne_true] at ho
  exact ⟨store_whole ho hi hz h1, h.fr.trans (setRow_fr' w b c) (fun _ _ e => e), setRow_at' ho⟩
def rcA (bn : Nat) (dst now : Int) (body : ByteArray) (u x : Nat → Value) : Act := ⟨#[u 0, .int .i64 dst, .string body, .int .i64 now, .pointer (some ⟨bn, 0, none⟩), u 5, u 6, u 7, .pointer (some ⟨(bn + 1), 0, none⟩), .int .i64 0, .int .i64 0, u 11, u 12, u 13, u 14, u 15, u 16, u 17, u 18, u 19, u 20, u 21, u 22, u 23, u 24, u 25, u 26, u 27, u 28, u 29, u 30, u 31, u 32, u 33, u 34, u 35, u 36, u 37, u 38, u 39, x 0, x 1, x 2, x 3, x 4, x 5, x 6, x 7, x 8, x 9, x 10, x 11, u 52, u 53, u 54, u 55, u 56, u 57, u 58, u 59], []⟩
def rcV (bn : Nat) (A : Option Addr) (n c : Nat) (nx dst now : Int) (body : ByteArray) (qx : Nat) (qw : Value) : Prop :=
  match qx with
  | 0 => qw = .pointer (some ⟨bn, 2, none⟩)
  | 1 => qw = .slice A n c
  | 3 => qw = .pointer (some ⟨bn, 1, none⟩)
  | 4 => qw = .int .i64 nx
  | 5 => qw = .int .i64 dst
  | 6 => qw = .int .i64 now
  | 7 => qw = .string body
  | 8 => qw = .agg #[.int .i64 nx, .int .i64 dst, .int .i64 1, .int .i64 0, .int .i64 now, .string body, .string ⟨#[]⟩]
  | 11 => qw = .pointer (some ⟨bn, 2, none⟩)
  | _ => True
def rdA (bn : Nat) (dst now : Int) (body : ByteArray) (u x : Nat → Value) : Act := ⟨#[u 0, .int .i64 dst, .string body, .int .i64 now, .pointer (some ⟨bn, 0, none⟩), u 5, u 6, u 7, .pointer (some ⟨(bn + 1), 0, none⟩), x 5, x 6, u 11, u 12, u 13, u 14, u 15, u 16, u 17, u 18, u 19, u 20, u 21, u 22, u 23, u 24, u 25, u 26, u 27, u 28, u 29, u 30, u 31, u 32, u 33, u 34, u 35, u 36, u 37, u 38, u 39, u 40, u 41, u 42, u 43, u 44, u 45, u 46, u 47, u 48, u 49, u 50, u 51, u 52, u 53, u 54, u 55, x 0, x 1, x 2, x 3], []⟩
def rdV (bn : Nat) (me nx : Int) (A5 : Option Addr) (m5 c5 : Nat) (qx : Nat) (qw : Value) : Prop :=
  match qx with
  | 0 => qw = .agg #[.int .i64 me, .int .i64 (nx + 1), .slice A5 m5 c5]
  | 1 => qw = .pointer (some ⟨bn, 1, none⟩)
  | 2 => qw = .int .i64 (nx + 1)
  | 3 => qw = .int .i64 nx
  | 5 => qw = .int .i64 nx
  | 6 => qw = .int .i64 0
  | _ => True
set_option maxHeartbeats 16000000 in
set_option maxRecDepth 100000 in
theorem rcall_any {w : World} {B : Nat} {S : CS} {x : List Tm} {v : Value} (h : RC w B S v) (hB : B ≤ w.heap.size) (hk : COk S x) (hl : S.L.length ≤ 65536) (dst now : Int) (body : ByteArray) :
    Calls Try.prog 16 #[v, .int .i64 dst, .string body, .int .i64 now] w fun e w' => ∃ v', e = .returned (.tuple #[v', .int .i64 (cCall S dst body now).2.1, .int .i64 (cCall S dst body now).2.2]) ∧ RC w' B (cCall S dst body now).1 v' ∧ Below w.heap.size w w' := by
  obtain ⟨u, rfl, hu⟩ := h
  obtain ⟨A, c, rfl⟩ := EK.row_slice hu
  obtain ⟨me, nx, L⟩ := S
  have hnx := hk.nxt
  have hfw := hk.few
  unfold rC
  simp only at hu hl hnx hfw ⊢
  have hRO := fun (wx : World) (hb : Below w.heap.size w wx) => ropen_any (S := ⟨me, nx, L⟩) (v := .agg #[.int .i64 me, .int .i64 nx, .slice A L.length c]) ⟨_, rfl, EK.row_below hu hb⟩ hl
  obtain ⟨n, hn⟩ : ∃ n, n = L.length := ⟨_, rfl⟩
  rw [← hn] at hu hl hRO ⊢
  have hbx := ((Below.refl w.heap.size w).alloc (Nat.le_refl _) (.cells #[.int .i64 me, .int .i64 nx, .slice A n c] 29)).alloc (by simp) (.cells #[.int .i64 me, .int .i64 nx, .slice A n c] 29)
  have HFIN := hide (show RC ((w.alloc (.cells #[.int .i64 me, .int .i64 nx, .slice A n c] 29)).alloc (.cells #[.int .i64 me, .int .i64 nx, .slice A n c] 29)) B ⟨me, nx, L⟩ (.agg #[.int .i64 me, .int .i64 nx, .slice A n c]) ∧ Below w.heap.size w ((w.alloc (.cells #[.int .i64 me, .int .i64 nx, .slice A n c] 29)).alloc (.cells #[.int .i64 me, .int .i64 nx, .slice A n c] 29)) from ⟨⟨_, rfl, EK.row_below hu hbx⟩, hbx⟩)
  unfold cCall
  simp only
  clear hk
  by_cases h1 : dst < 0
  · rw [if_pos (.inl h1)]
    simp only
    clear hu hn hbx
    have HOO := hide (obj_new' w (.cells #[.int .i64 me, .int .i64 nx, .slice A n c] 29) (.cells #[.int .i64 me, .int .i64 nx, .slice A n c] 29))
    go_enter Try.func16, Try.ntmps16
    go_wp2
    refine bodyPost_ret (res_ctt rfl _ _ (w.heap.size + 1) 29 _ (0, 0) _ rfl HOO.out Try.underlying29 rfl info29) rfl ?_
    have HX := HFIN.out
    refine ⟨_, ?_, HX⟩
    rfl
  by_cases h2 : 63 < dst
  · rw [if_pos (.inr (.inl h2))]
    simp only
    clear hu hn hbx
    have HOO := hide (obj_new' w (.cells #[.int .i64 me, .int .i64 nx, .slice A n c] 29) (.cells #[.int .i64 me, .int .i64 nx, .slice A n c] 29))
    go_enter Try.func16, Try.ntmps16
    go_wp2
    refine bodyPost_ret (res_ctt rfl _ _ (w.heap.size + 1) 29 _ (0, 0) _ rfl HOO.out Try.underlying29 rfl info29) rfl ?_
    have HX := HFIN.out
    refine ⟨_, ?_, HX⟩
    rfl
  by_cases h3 : badN now
  · rw [if_pos (.inr (.inr h3))]
    simp only
    have HMO := hide (fun W => rmoment_no h3 W)
    clear h3
    clear hu hn hbx
    have HOO := hide (obj_new' w (.cells #[.int .i64 me, .int .i64 nx, .slice A n c] 29) (.cells #[.int .i64 me, .int .i64 nx, .slice A n c] 29))
    go_enter Try.func16, Try.ntmps16
    go_wp2_with fail
    refine (HMO.out _).mono ?_
    rintro e wm ⟨rfl, rfl⟩
    go_wp2
    refine bodyPost_ret (res_ctt rfl _ _ (w.heap.size + 1) 29 _ (0, 0) _ rfl HOO.out Try.underlying29 rfl info29) rfl ?_
    have HX := HFIN.out
    refine ⟨_, ?_, HX⟩
    rfl
  rw [if_neg (fun hh => hh.elim h1 (fun hh => hh.elim h2 h3))]
  have HMO := hide (fun W => rmoment_ok h3 W)
  clear h3
  by_cases h4 : 4096 < body.size
  · rw [if_pos h4]
    simp only
    have h4i : (4096 : Int) < (body.size : Int) := by omega
    clear hu hn hbx
    have HOO := hide (obj_new' w (.cells #[.int .i64 me, .int .i64 nx, .slice A n c] 29) (.cells #[.int .i64 me, .int .i64 nx, .slice A n c] 29))
    go_enter Try.func16, Try.ntmps16
    go_wp2_with fail
    refine (HMO.out _).mono ?_
    rintro e wm ⟨rfl, rfl⟩
    go_wp2
    refine bodyPost_ret (res_ctt rfl _ _ (w.heap.size + 1) 29 _ (0, 0) _ rfl HOO.out Try.underlying29 rfl info29) rfl ?_
    have HX := HFIN.out
    refine ⟨_, ?_, HX⟩
    rfl
  rw [if_neg h4]
  have h4i : ¬ (4096 : Int) < (body.size : Int) := by omega
  have hal := ((Below.refl w.heap.size w).alloc (Nat.le_refl _) (.cells #[.int .i64 me, .int .i64 nx, .slice A n c] 29)).alloc (by simp) (.cells #[.int .i64 0, .int .i64 0, .slice none 0 0] 29)
  have HB := hide hal
  have HO := hide (obj_alloc (obj_new w (.cells #[.int .i64 me, .int .i64 nx, .slice A n c] 29)) (.cells #[.int .i64 0, .int .i64 0, .slice none 0 0] 29))
  have HP := hide (obj_new' w (.cells #[.int .i64 me, .int .i64 nx, .slice A n c] 29) (.cells #[.int .i64 0, .int .i64 0, .slice none 0 0] 29))
  have HRO := hide (hRO _ hal)
  have HU := hide hu
  have HN := hide hn
  obtain ⟨no, hno⟩ : ∃ no, no = (opens L).length := ⟨_, rfl⟩
  rw [← hno] at hfw ⊢
  have HNO := hide hno
  have HBS := hide hB
  clear hu hn hbx hal hRO hno hB HFIN
  by_cases h5 : 2147483647 ≤ nx ∨ 64 ≤ no
  · rw [if_pos h5]
    simp only
    go_enter Try.func16, Try.ntmps16
    go_wp2_with fail
    refine (HMO.out _).mono ?_
    rintro e wm ⟨rfl, rfl⟩
    go_wp2_with fail
    refine HRO.out.mono ?_
    rintro e w3 ⟨ov, rfl, hro, hb3⟩
    obtain ⟨A9, c9, rfl⟩ := EK.row_slice hro
    rw [← HNO.out]
    have hbb := HB.out.trans (hb3.mono HB.out.size)
    have HO3 := hide (obj_below HO.out hb3)
    have HP3 := hide (obj_below HP.out hb3)
    have z0 := obj_cell HO3.out 0
    have z1 := obj_cell HO3.out 1
    have z2 := obj_cell HO3.out 2
    simp only [List.getElem?_toArray, List.getElem?_cons_zero, List.getElem?_cons_succ] at z0 z1 z2
    have HST := hide (store_whole (P := Try.prog) (ty := 29) HP3.out (cells := #[.int .i64 me, .int .i64 nx, .slice A n c]) info29 rfl (by simp [Value.oneCell']))
    have F := setRow_fr' w3 (w.heap.size + 1) #[.int .i64 me, .int .i64 nx, .slice A n c]
    have HFIN := hide (show RC (w3.setRow (w.heap.size + 1) #[.int .i64 me, .int .i64 nx, .slice A n c]) B ⟨me, nx, L⟩ (.agg #[.int .i64 me, .int .i64 nx, .slice A n c]) ∧ Below w.heap.size w (w3.setRow (w.heap.size + 1) #[.int .i64 me, .int .i64 nx, .slice A n c]) from
      ⟨⟨_, rfl, EK.row_fr (EK.row_below HU.out hbb) F (EK.row_ne_of (EK.row_below HU.out hbb) HP3.out (by decide))⟩, hbb.trans (F.below _ hbb.size (fun j hj e => by omega))⟩)
    have HOO := hide (setRow_at' (C' := #[.int .i64 me, .int .i64 nx, .slice A n c]) HP3.out)
    clear hro hb3 hbb F
    by_cases h6 : 64 ≤ no
    · have h6i : (64 : Int) ≤ (no : Int) := by omega
      clear h5 h6
      go_wp2_with (refine wpList_storev' (w' := w3.setRow (w.heap.size + 1) #[.int .i64 me, .int .i64 nx, .slice A n c]) rfl 29 (.tmp 8) (.tmp 39) rfl rfl rfl ?_ ?_; exact HST.out)
      refine bodyPost_ret (res_ctt rfl _ _ (w.heap.size + 1) 29 _ (0, 0) _ rfl HOO.out Try.underlying29 rfl info29) rfl ?_
      have HX := HFIN.out
      refine ⟨_, ?_, HX⟩
      rfl
    · have h6i : ¬ (64 : Int) ≤ (no : Int) := by omega
      have h7 : 2147483647 ≤ nx := by omega
      clear h5 h6
      go_wp2_with (refine wpList_storev' (w' := w3.setRow (w.heap.size + 1) #[.int .i64 me, .int .i64 nx, .slice A n c]) rfl 29 (.tmp 8) (.tmp 39) rfl rfl rfl ?_ ?_; exact HST.out)
      refine bodyPost_ret (res_ctt rfl _ _ (w.heap.size + 1) 29 _ (0, 0) _ rfl HOO.out Try.underlying29 rfl info29) rfl ?_
      have HX := HFIN.out
      refine ⟨_, ?_, HX⟩
      rfl
  rw [if_neg h5]
  simp only
  have h6i : ¬ (64 : Int) ≤ (no : Int) := by omega
  have h7 : ¬ 2147483647 ≤ nx := by omega
  have hn0 : 0 ≤ nx := hnx.1
  clear h5 hnx hfw
  go_enter Try.func16, Try.ntmps16
  go_wp2_with fail
  refine (HMO.out _).mono ?_
  rintro e wm ⟨rfl, rfl⟩
  go_wp2_with fail
  refine HRO.out.mono ?_
  rintro e w3 ⟨ov, rfl, hro, hb3⟩
  obtain ⟨A9, c9, rfl⟩ := EK.row_slice hro
  rw [← HNO.out]
  have hbb := HB.out.trans (hb3.mono HB.out.size)
  have HO3 := hide (obj_below HO.out hb3)
  have HP3 := hide (obj_below HP.out hb3)
  have z0 := obj_cell HO3.out 0
  have z1 := obj_cell HO3.out 1
  have z2 := obj_cell HO3.out 2
  simp only [List.getElem?_toArray, List.getElem?_cons_zero, List.getElem?_cons_succ] at z0 z1 z2
  have HBB := hide hbb
  have HR0 := hide (show kK.row w3 0 (.slice A n c) L from EK.row_base (EK.row_below HU.out hbb) (Nat.zero_le _))
  have HVB : Hid ((Value.slice A n c).ownBlock ≠ some w.heap.size) := hide (fun e => absurd (EK.row_typed HU.out e).2.1 (Nat.lt_irrefl _))
  have HLN : Hid (L.length ≤ 1048576) := hide (by have := HN.out; omega)
  clear hro hb3 hbb
  go_wp2_with fail
  clear z0 z1 z2
  refine wp_region_c (rcA w.heap.size dst now body) (fun j => #[40, 41, 42, 43, 44, 45, 46, 47, 48, 49, 50, 51, 0].getD j 0) (fun d x w' => CpG kK w3 w.heap.size 2 #[.int .i64 me, .int .i64 nx, .slice A n c] 29 (.slice A n c) L (newK ⟨me, nx, L⟩ dst body now) (d 2) (d 9) (d 10) (d 12) (x 2) (x 9) (x 10) w') (fun qi qv => rcV w.heap.size A n c nx dst now body qi qv) (by kernel_rfl) (by kernel_rfl) rfl (CpG.start HO3.out _ _ _) ?_ ?_ ?_
  · exact fun u => ⟨fun x v => rfl, fun x v => rfl, fun x v => rfl, fun x v => rfl, fun x v => rfl, fun x v => rfl, fun x v => rfl, fun x v => rfl, fun x v => rfl, fun x v => rfl, fun x v => rfl, fun x v => rfl, fun x v => rfl, trivial⟩
  · refine fun u => ⟨?_, ?_, ?_, ?_, ?_, ?_, ?_, ?_, ?_, ?_, ?_, ?_, ?_, trivial⟩
    · intro d x w' hS hdi hv hp hcl K hK
      refine ⟨rfl, ?_⟩
      unfold rcA at hK ⊢
      go_wp2
      exact hK (.pointer (some ⟨w.heap.size, 2, none⟩)) w' hS rfl
    · intro d x w' hS hdi hv hp hcl K hK
      have d0 : x 0 = .pointer (some ⟨w.heap.size, 2, none⟩) := hv 0 (hp 0 (by kernel_rfl))
      have ne : d 12 = false := Bool.eq_false_iff.2 (fun hz => absurd (hcl 12 1 hz (by kernel_rfl)) (by rw [hdi]; decide))
      have hS1 : CpG kK w3 w.heap.size 2 #[.int .i64 me, .int .i64 nx, .slice A n c] 29 (.slice A n c) L (newK ⟨me, nx, L⟩ dst body now) (d 2) (d 9) (d 10) (d 12) (x 2) (x 9) (x 10) w' := hS
      have z := obj_cell hS1.o 2
      simp only [ne, if_neg Bool.false_ne_true, List.getElem?_toArray, List.getElem?_cons_zero, List.getElem?_cons_succ] at z
      refine ⟨rfl, ?_⟩
      unfold rcA at hK ⊢
      simp only [d0] at hK ⊢
      go_wp2
      exact hK (.slice A n c) w' hS rfl
    · intro d x w' hS hdi hv hp hcl K hK
      have d0 : x 1 = .slice A n c := hv 1 (hp 1 (by kernel_rfl))
      have na : d 10 = false := Bool.eq_false_iff.2 (fun hz => absurd (hcl 10 2 hz (by kernel_rfl)) (by rw [hdi]; decide))
      have hS1 : CpG kK w3 w.heap.size 2 #[.int .i64 me, .int .i64 nx, .slice A n c] 29 (.slice A n c) L (newK ⟨me, nx, L⟩ dst body now) (d 2) (d 9) (d 10) (d 12) (x 2) (x 9) (x 10) w' := hS
      rw [na] at hS1
      obtain ⟨v2, w2, hrun, hS2⟩ := hS1.copy HR0.out HVB.out HLN.out 27
      refine ⟨rfl, ?_⟩
      unfold rcA at hK ⊢
      simp only [d0] at hK ⊢
      refine wp_append_n (.const (.slice none 0 0)) (.tmp 41) 27 27 rfl rfl rfl hrun ?_
      exact hK v2 w2 (show CpG kK w3 w.heap.size 2 #[.int .i64 me, .int .i64 nx, .slice A n c] 29 (.slice A n c) L (newK ⟨me, nx, L⟩ dst body now) (true) (d 9) (d 10) (d 12) (v2) (x 9) (x 10) w2 by rw [na]; exact hS2) trivial
    · intro d x w' hS hdi hv hp hcl K hK
      refine ⟨rfl, ?_⟩
      unfold rcA at hK ⊢
      go_wp2
      exact hK (.pointer (some ⟨w.heap.size, 1, none⟩)) w' hS rfl
    · intro d x w' hS hdi hv hp hcl K hK
      have d0 : x 3 = .pointer (some ⟨w.heap.size, 1, none⟩) := hv 3 (hp 3 (by kernel_rfl))
      have ne : d 12 = false := Bool.eq_false_iff.2 (fun hz => absurd (hcl 12 4 hz (by kernel_rfl)) (by rw [hdi]; decide))
      have hS1 : CpG kK w3 w.heap.size 2 #[.int .i64 me, .int .i64 nx, .slice A n c] 29 (.slice A n c) L (newK ⟨me, nx, L⟩ dst body now) (d 2) (d 9) (d 10) (d 12) (x 2) (x 9) (x 10) w' := hS
      have z := obj_cell hS1.o 1
      simp only [ne, if_neg Bool.false_ne_true, List.getElem?_toArray, List.getElem?_cons_zero, List.getElem?_cons_succ] at z
      refine ⟨rfl, ?_⟩
      unfold rcA at hK ⊢
      simp only [d0] at hK ⊢
      go_wp2
      exact hK (.int .i64 nx) w' hS rfl
    · intro d x w' hS hdi hv hp hcl K hK
      refine ⟨rfl, ?_⟩
      unfold rcA at hK ⊢
      go_wp2
      exact hK (.int .i64 dst) w' hS rfl
    · intro d x w' hS hdi hv hp hcl K hK
      refine ⟨rfl, ?_⟩
      unfold rcA at hK ⊢
      go_wp2
      exact hK (.int .i64 now) w' hS rfl
    · intro d x w' hS hdi hv hp hcl K hK
      refine ⟨rfl, ?_⟩
      unfold rcA at hK ⊢
      go_wp2
      exact hK (.string body) w' hS rfl
    · intro d x w' hS hdi hv hp hcl K hK
      have d0 : x 4 = .int .i64 nx := hv 4 (hp 4 (by kernel_rfl))
      have d1 : x 5 = .int .i64 dst := hv 5 (hp 5 (by kernel_rfl))
      have d2 : x 6 = .int .i64 now := hv 6 (hp 6 (by kernel_rfl))
      have d3 : x 7 = .string body := hv 7 (hp 7 (by kernel_rfl))
      refine ⟨rfl, ?_⟩
      unfold rcA at hK ⊢
      simp only [d0, d1, d2, d3] at hK ⊢
      go_wp2
      exact hK (.agg #[.int .i64 nx, .int .i64 dst, .int .i64 1, .int .i64 0, .int .i64 now, .string body, .string ⟨#[]⟩]) w' hS rfl
    · intro d x w' hS hdi hv hp hcl K hK
      have d0 : x 8 = .agg #[.int .i64 nx, .int .i64 dst, .int .i64 1, .int .i64 0, .int .i64 now, .string body, .string ⟨#[]⟩] := hv 8 (hp 8 (by kernel_rfl))
      have na : d 10 = false := Bool.eq_false_iff.2 (fun hz => absurd (hcl 10 9 hz (by kernel_rfl)) (by rw [hdi]; decide))
      have hS1 : CpG kK w3 w.heap.size 2 #[.int .i64 me, .int .i64 nx, .slice A n c] 29 (.slice A n c) L (newK ⟨me, nx, L⟩ dst body now) (d 2) (d 9) (d 10) (d 12) (x 2) (x 9) (x 10) w' := hS
      rw [na] at hS1
      refine ⟨rfl, ?_⟩
      unfold rcA at hK ⊢
      simp only [d0] at hK ⊢
      go_wp2
      exact hK (.slice (some ⟨w'.heap.size, 0, none⟩) 1 1) _ (show CpG kK w3 w.heap.size 2 #[.int .i64 me, .int .i64 nx, .slice A n c] 29 (.slice A n c) L (newK ⟨me, nx, L⟩ dst body now) (d 2) (true) (d 10) (d 12) (x 2) (.slice (some ⟨w'.heap.size, 0, none⟩) 1 1) (x 10) _ by rw [na]; exact hS1.build #[.int .i64 nx, .int .i64 dst, .int .i64 1, .int .i64 0, .int .i64 now, .string body, .string ⟨#[]⟩] rfl 95 rfl) trivial
    · intro d x w' hS hdi hv hp hcl K hK
      have yc : d 2 = true := hp 2 (by kernel_rfl)
      have ys : d 9 = true := hp 9 (by kernel_rfl)
      have ne : d 12 = false := Bool.eq_false_iff.2 (fun hz => absurd (hcl 12 10 hz (by kernel_rfl)) (by rw [hdi]; decide))
      have hS1 : CpG kK w3 w.heap.size 2 #[.int .i64 me, .int .i64 nx, .slice A n c] 29 (.slice A n c) L (newK ⟨me, nx, L⟩ dst body now) (d 2) (d 9) (d 10) (d 12) (x 2) (x 9) (x 10) w' := hS
      rw [hdi, yc, ys] at hS1
      obtain ⟨b, v3, w2, e1, hrun, hS2⟩ := hS1.app (by decide) HLN.out 27
      have hS2' : CpG kK w3 w.heap.size 2 #[.int .i64 me, .int .i64 nx, .slice A n c] 29 (.slice A n c) L (newK ⟨me, nx, L⟩ dst body now) (true) (true) (true) (d 12) (x 2) (x 9) (v3) w2 := by rw [ne]; exact hS2
      refine ⟨rfl, ?_⟩
      unfold rcA at hK ⊢
      simp only [e1] at hK ⊢
      refine wp_append_n (.tmp 42) (.tmp 49) 27 27 rfl rfl rfl hrun ?_
      exact hK v3 w2 (show CpG kK w3 w.heap.size 2 #[.int .i64 me, .int .i64 nx, .slice A n c] 29 (.slice A n c) L (newK ⟨me, nx, L⟩ dst body now) (d 2) (d 9) (true) (d 12) (x 2) (.slice (some ⟨b, 0, none⟩) 1 1) (v3) w2 by rw [yc, ys]; rw [e1] at hS2'; exact hS2') trivial
    · intro d x w' hS hdi hv hp hcl K hK
      refine ⟨rfl, ?_⟩
      unfold rcA at hK ⊢
      go_wp2
      exact hK (.pointer (some ⟨w.heap.size, 2, none⟩)) w' hS rfl
    · intro d x w' hS hdi hv hp hcl K hK
      have d0 : x 11 = .pointer (some ⟨w.heap.size, 2, none⟩) := hv 11 (hp 11 (by kernel_rfl))
      have ya : d 10 = true := hp 10 (by kernel_rfl)
      have hS1 : CpG kK w3 w.heap.size 2 #[.int .i64 me, .int .i64 nx, .slice A n c] 29 (.slice A n c) L (newK ⟨me, nx, L⟩ dst body now) (d 2) (d 9) (d 10) (d 12) (x 2) (x 9) (x 10) w' := hS
      rw [hdi, ya] at hS1
      obtain ⟨A5, c5, e3⟩ := EK.row_slice (hS1.a rfl)
      generalize List.length _ = m5 at e3
      have z := obj_cell hS1.o 2
      have tz := obj_frozen hS1.o 2
      simp only [if_neg Bool.false_ne_true, List.getElem?_toArray, List.getElem?_cons_zero, List.getElem?_cons_succ] at z
      have hS2 := hS1.store (by decide)
      refine ⟨rfl, ?_⟩
      unfold rcA at hK ⊢
      simp only [d0, e3] at hK ⊢
      go_wp2
      refine hK undef _ (show CpG kK w3 w.heap.size 2 #[.int .i64 me, .int .i64 nx, .slice A n c] 29 (.slice A n c) L (newK ⟨me, nx, L⟩ dst body now) (d 2) (d 9) (d 10) (true) (x 2) (x 9) (.slice A5 m5 c5) _ from ?_) trivial
      rw [ya]
      rw [e3] at hS2
      exact hS2
  · intro u hu d x w4 hS hd hv
    have hda := hd 10 (by decide)
    have hde := hd 12 (by decide)
    have hS1 : CpG kK w3 w.heap.size 2 #[.int .i64 me, .int .i64 nx, .slice A n c] 29 (.slice A n c) L (newK ⟨me, nx, L⟩ dst body now) (d 2) (d 9) (d 10) (d 12) (x 2) (x 9) (x 10) w4 := hS
    rw [hda, hde] at hS1
    have hrow := hS1.a rfl
    have hN := hS1.o
    rw [if_pos rfl] at hN
    have hO := hS1.fr.obj HP3.out (by omega)
    have hBw := HBB.out.trans (hS1.fr.below _ HBB.out.size (fun j hj e => by omega))
    obtain ⟨A5, c5, e3⟩ := EK.row_slice hrow
    obtain ⟨m5, hm5⟩ : ∃ m, m = (L ++ [newK ⟨me, nx, L⟩ dst body now]).length := ⟨_, rfl⟩
    rw [← hm5] at e3
    rw [e3] at hrow hN
    have z0 := obj_cell hN 0
    have z1 := obj_cell hN 1
    have z2 := obj_cell hN 2
    have t1 := obj_frozen hN 1
    simp only [List.getElem?_toArray, List.getElem?_cons_zero, List.getElem?_cons_succ, List.setIfInBounds_toArray, List.set_cons_succ, List.set_cons_zero] at z0 z1 z2
    have hN5 := obj_set hN 1 (.int .i64 (nx + 1))
    simp only [List.setIfInBounds_toArray, List.set_cons_succ, List.set_cons_zero] at hN5
    have F5 := (Fr.refl (fun i => i = w.heap.size) w4).setCell (p := ⟨w.heap.size, 1, none⟩) (fun _ => rfl) (.int .i64 (nx + 1))
    have hO5 := F5.obj hO (by omega)
    have hr5 := EK.row_fr hrow F5 (EK.row_ne_of hrow hN (by decide))
    have hB5 := hBw.trans (F5.below _ hBw.size (fun i hi e => by omega))
    have HN5 := hide hN5
    have HO5 := hide hO5
    have HR5 := hide hr5
    have HB5 := hide hB5
    clear hS hS1 hd hv hu hda hde hrow hN hO hBw e3 hm5 hN5 F5 hO5 hr5 hB5
    unfold rcA
    go_wp2_with fail
    generalize w4.setCell ⟨w.heap.size, 1, none⟩ (.int .i64 (nx + 1)) = w5 at HN5 HO5 HR5 HB5 ⊢
    clear z0 z1 z2 t1
    refine wp_region_c (rdA w.heap.size dst now body) (fun j => #[56, 57, 58, 59, 0, 9, 10].getD j 0) (fun d x w' => OsG w5 (w.heap.size + 1) 29 #[.int .i64 0, .int .i64 0, .slice none 0 0] #[.int .i64 me, .int .i64 (nx + 1), .slice A5 m5 c5] (d 4) w') (fun qi qv => rdV w.heap.size me nx A5 m5 c5 qi qv) (by kernel_rfl) (by kernel_rfl) rfl (OsG.start HO5.out) ?_ ?_ ?_
    · exact fun u => ⟨fun x v => rfl, fun x v => rfl, fun x v => rfl, fun x v => rfl, fun x v => rfl, fun x v => rfl, fun x v => rfl, trivial⟩
    · refine fun u => ⟨?_, ?_, ?_, ?_, ?_, ?_, ?_, trivial⟩
      · intro d x w' hS hdi hv hp hcl K hK
        have hS1 : OsG w5 (w.heap.size + 1) 29 #[.int .i64 0, .int .i64 0, .slice none 0 0] #[.int .i64 me, .int .i64 (nx + 1), .slice A5 m5 c5] (d 4) w' := hS
        have hN := hS1.fr.obj HN5.out (by omega)
        have z0 := obj_cell hN 0
        have z1 := obj_cell hN 1
        have z2 := obj_cell hN 2
        simp only [List.getElem?_toArray, List.getElem?_cons_zero, List.getElem?_cons_succ] at z0 z1 z2
        refine ⟨rfl, ?_⟩
        unfold rdA at hK ⊢
        go_wp2
        exact hK (.agg #[.int .i64 me, .int .i64 (nx + 1), .slice A5 m5 c5]) w' hS rfl
      · intro d x w' hS hdi hv hp hcl K hK
        refine ⟨rfl, ?_⟩
        unfold rdA at hK ⊢
        go_wp2
        exact hK (.pointer (some ⟨w.heap.size, 1, none⟩)) w' hS rfl
      · intro d x w' hS hdi hv hp hcl K hK
        have d0 : x 1 = .pointer (some ⟨w.heap.size, 1, none⟩) := hv 1 (hp 1 (by kernel_rfl))
        have hS1 : OsG w5 (w.heap.size + 1) 29 #[.int .i64 0, .int .i64 0, .slice none 0 0] #[.int .i64 me, .int .i64 (nx + 1), .slice A5 m5 c5] (d 4) w' := hS
        have hN := hS1.fr.obj HN5.out (by omega)
        have z0 := obj_cell hN 0
        have z1 := obj_cell hN 1
        have z2 := obj_cell hN 2
        simp only [List.getElem?_toArray, List.getElem?_cons_zero, List.getElem?_cons_succ] at z0 z1 z2
        refine ⟨rfl, ?_⟩
        unfold rdA at hK ⊢
        simp only [d0] at hK ⊢
        go_wp2
        exact hK (.int .i64 (nx + 1)) w' hS rfl
      · intro d x w' hS hdi hv hp hcl K hK
        have d0 : x 2 = .int .i64 (nx + 1) := hv 2 (hp 2 (by kernel_rfl))
        refine ⟨rfl, ?_⟩
        unfold rdA at hK ⊢
        simp only [d0] at hK ⊢
        go_wp2
        exact hK (.int .i64 nx) w' hS rfl
      · intro d x w' hS hdi hv hp hcl K hK
        have d0 : x 0 = .agg #[.int .i64 me, .int .i64 (nx + 1), .slice A5 m5 c5] := hv 0 (hp 0 (by kernel_rfl))
        have hS1 : OsG w5 (w.heap.size + 1) 29 #[.int .i64 0, .int .i64 0, .slice none 0 0] #[.int .i64 me, .int .i64 (nx + 1), .slice A5 m5 c5] (d 4) w' := hS
        rw [hdi] at hS1
        obtain ⟨hrun, hS2⟩ := hS1.store (P := Try.prog) (ty := 29) info29 rfl (by simp [Value.oneCell'])
        refine ⟨rfl, ?_⟩
        unfold rdA at hK ⊢
        simp only [d0] at hK ⊢
        refine wp_storev' 29 (.tmp 8) (.tmp 56) rfl rfl rfl hrun ?_
        exact hK undef _ (show OsG w5 (w.heap.size + 1) 29 #[.int .i64 0, .int .i64 0, .slice none 0 0] #[.int .i64 me, .int .i64 (nx + 1), .slice A5 m5 c5] true _ from hS2) trivial
      · intro d x w' hS hdi hv hp hcl K hK
        have d0 : x 3 = .int .i64 nx := hv 3 (hp 3 (by kernel_rfl))
        refine ⟨rfl, ?_⟩
        unfold rdA at hK ⊢
        simp only [d0] at hK ⊢
        go_wp2
        exact hK (.int .i64 nx) w' hS rfl
      · intro d x w' hS hdi hv hp hcl K hK
        refine ⟨rfl, ?_⟩
        unfold rdA at hK ⊢
        go_wp2
        exact hK (.int .i64 0) w' hS rfl
    · intro u hu d x w' hS hd hv
      have hS1 : OsG w5 (w.heap.size + 1) 29 #[.int .i64 0, .int .i64 0, .slice none 0 0] #[.int .i64 me, .int .i64 (nx + 1), .slice A5 m5 c5] (d 4) w' := hS
      rw [hd 4 (by decide)] at hS1
      have hO := hS1.o
      rw [if_pos rfl] at hO
      have HOO := hide hO
      have e5 : x 5 = .int .i64 nx := hv 5 (by decide)
      have e6 : x 6 = .int .i64 0 := hv 6 (by decide)
      have HFIN := hide (show RC w' B ⟨me, nx + 1, L ++ [newK ⟨me, nx, L⟩ dst body now]⟩ (.agg #[.int .i64 me, .int .i64 (nx + 1), .slice A5 m5 c5]) ∧ Below w.heap.size w w' from
        ⟨⟨_, rfl, EK.row_base (EK.row_fr HR5.out hS1.fr (EK.row_ne_of HR5.out HO5.out (by decide))) (by have := HBS.out; have := HBB.out.size; omega)⟩, HB5.out.trans (hS1.fr.below _ HB5.out.size (fun i hi e => by omega))⟩)
      clear hS hS1 hd hv hu hO
      unfold rdA
      simp only [e5, e6]
      go_wp2
      refine bodyPost_ret (res_ctt rfl _ _ (w.heap.size + 1) 29 _ (0, 0) _ rfl HOO.out Try.underlying29 rfl info29) rfl ?_
      have HX := HFIN.out
      refine ⟨_, ?_, HX⟩
      rfl
end Go.Proofs.Ythcnoamgkkbkcaa
