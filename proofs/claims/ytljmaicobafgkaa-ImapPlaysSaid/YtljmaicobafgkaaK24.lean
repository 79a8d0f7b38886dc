/- A join of 1 texts of this claim: ImW4. Conditions: none of their own. -/
import Derived.Test.YtljmaicobafgkaaK23
import Derived.Deep.CutRange
section
/- Chapter 25, imap: the walk of ImapPlays. -/
namespace Go.Proofs.Ytljmaicobafgkaa
open Go.RowKit

section
variable {P : Program} {ops : Array Oper} {Q : Exit → Act → World → Prop}
theorem wp_region_valsF {id : Nat} (F : (Nat → Value) → (Nat → Value) → Act) (pos : Nat → Nat) (S : World → Prop) (V : Nat → Value → World → Prop) {a : Act} {w : World}
    (hm : P.follows .mixedOrders = true) (hord : orderedB ops = true) (ha : a = F (fun j => a.tmps.getD j undef) (fun j => a.tmps.getD (pos j) undef))
    (hS : ∀ w w', Below w.heap.size w w' → S w → S w') (hV : ∀ i v w w', Below w.heap.size w w' → V i v w → V i v w') (h0 : S w.drew)
    (hput : ∀ u, Puts (F u) ops.toList 0) (hstep : ∀ u, Steps P ops Q (F u) S V ops.toList 0)
    (hdone : ∀ u, (u = fun j => a.tmps.getD j undef) → ∀ x w', S w' → (∀ i, i < ops.size → V i (x i) w') → Q .normal (F u x) w') : (Code.region id ops true).wp P Q a w :=
  wp_region_vals (F fun j => a.tmps.getD j undef) _ S V hm hord ha hS hV h0 (hput _) (hstep _) (hdone _ rfl)
end
def dC (d : Deed) (v : Int) : Array Value := #[.int .i64 d.kind, .int .i64 d.inode, .int .i64 v, .int .i64 d.sp.seg, .int .i64 d.sp.frm, .int .i64 d.sp.len, .int .i64 d.sp.ver, .bool d.now]
def PlS (w0 : World) (g b4 n : Nat) (w : World) (iv : Value) : Prop := ∃ (k : Nat) (M : Nat → Spot), iv = .int .i64 k ∧ k ≤ n ∧ IM w g M ∧ RM w b4 M ∧ MokN M k ∧ Below w0.heap.size w0 w
def PlD (w0 : World) (g b4 b6 k : Nat) (d : Deed) (v : Int) (w : World) : Prop := ∃ M : Nat → Spot, IM w g M ∧ RM w b4 M ∧ MokN M k ∧ w.heap[b6]? = some (.cells (dC d v) 32 (0, 0)) ∧ Below w0.heap.size w0 w
def PlQ (w0 : World) (g b4 b6 b7 : Nat) (M : Nat → Spot) (k : Nat) (d : Deed) (v : Int) (q : Spot) (w : World) : Prop := IM w g M ∧ RM w b4 M ∧ MokN M k ∧ w.heap[b6]? = some (.cells (dC d v) 32 (0, 0)) ∧ w.heap[b7]? = some (.cells #[.int .i64 q.seg, .int .i64 q.frm, .int .i64 q.len, .int .i64 q.ver] 27 (0, 0)) ∧ Below w0.heap.size w0 w
def PlT (w0 : World) (g b4 b6 b16 b18 : Nat) (M : Nat → Spot) (d : Deed) (v : Int) (q : Spot) (w : World) : Prop :=
  IM w g M ∧ RM w b4 M ∧ w.heap[b6]? = some (.cells (dC d v) 32 (0, 0)) ∧ w.heap[b16]? = some (.cells #[.int .i64 q.seg, .int .i64 q.frm, .int .i64 q.len, .int .i64 q.ver] 27 (0, 0)) ∧ w.heap[b18]? = some (.cells #[.int .i64 q.seg, .int .i64 q.frm, .int .i64 q.len, .int .i64 q.ver] 27 (0, 0)) ∧ Below w0.heap.size w0 w
theorem PlT.on {w0 : World} {g b4 b6 b16 b18 : Nat} {M : Nat → Spot} {d : Deed} {v : Int} {q : Spot} {w w' : World} (hb : Below w.heap.size w w') (h : PlT w0 g b4 b6 b16 b18 M d v q w) : PlT w0 g b4 b6 b16 b18 M d v q w' :=
  ⟨h.1.below hb, h.2.1.below hb, obj_below h.2.2.1 hb, obj_below h.2.2.2.1 hb, obj_below h.2.2.2.2.1 hb, h.2.2.2.2.2.trans (hb.mono h.2.2.2.2.2.size)⟩
def plA (g b4 b6 b16 b18 : Nat) (gb : Bool) (u x : Nat → Value) : Act := ⟨#[u 0, u 1, u 2, .pointer (some ⟨g, 0, none⟩), .pointer (some ⟨b4, 0, none⟩), u 5, .pointer (some ⟨b6, 0, none⟩), u 7, u 8, u 9, u 10, u 11, u 12, u 13, u 14, u 15, .pointer (some ⟨b16, 0, none⟩), .bool gb, .pointer (some ⟨b18, 0, none⟩), .bool gb, u 20, u 21, u 22, u 23, u 24, u 25, u 26, u 27, u 28, u 29, u 30, u 31, u 32, u 33, u 34, u 35, u 36, u 37, u 38, u 39, u 40, u 41, u 42, u 43, u 44, u 45, u 46, u 47, u 48, u 49, u 50, u 51, u 52, u 53, u 54, u 55, u 56, u 57, u 58, u 59, u 60, u 61, u 62, u 63, u 64, u 65, u 66, u 67, u 68, u 69, u 70, u 71, u 72, u 73, u 74, u 75, u 76, u 77, u 78, u 79, u 80, u 81, u 82, u 83, u 84, u 85, u 86, u 87, u 88, u 89, u 90, u 91, u 92, u 93, u 94, u 95, u 96, u 97, u 98, u 99, u 100, u 101, u 102, u 103, u 104, u 105, u 106, u 107, u 108, u 109, u 110, u 111, u 112, u 113, u 114, u 115, u 116, u 117, x 0, x 1, x 2, x 3, x 4, x 5, x 6, x 7, x 8, x 9, x 10, x 11, x 12, x 13, x 14, x 15, x 16, x 17, x 18, x 19, x 20, x 21, x 22, x 23, x 24, x 25, x 26, x 27, u 146, u 147, u 148, u 149, u 150, u 151, u 152, u 153, u 154, u 155, u 156, u 157, u 158, u 159, u 160], []⟩
def plV (g b6 : Nat) (M : Nat → Spot) (d : Deed) (q : Spot) (gb : Bool) (i : Nat) (v : Value) (_w : World) : Prop :=
  match i with
  | 0 => v = .agg #[.int .i64 q.seg, .int .i64 q.frm, .int .i64 q.len, .int .i64 q.ver]
  | 1 => v = .agg #[.int .i64 q.seg, .int .i64 q.frm, .int .i64 q.len, .int .i64 q.ver]
  | 4 => v = .bool gb
  | 5 => v = .bool gb
  | 9 => v = .pointer (some ⟨g, 0, none⟩)
  | 10 => v = .pointer (some ⟨b6, 3, none⟩)
  | 11 => v = .pointer (some ⟨b6, 3, none⟩)
  | 12 => v = .int .i64 d.sp.seg
  | 13 => v = .int .i64 (liveW d.sp.seg (entUp M 256))
  | 14 => ∃ C, v = .agg C ∧ Rep C M
  | 15 => v = .pointer (some ⟨b6, 3, none⟩)
  | 16 => v = .pointer (some ⟨b6, 3, none⟩)
  | 17 => v = .int .i64 d.sp.seg
  | 18 => v = .int .i64 (liveW d.sp.seg (entUp M 256))
  | 22 => v = .pointer (some ⟨g, 0, none⟩)
  | 23 => ∃ r : Nat, v = .int .i64 (r : Int) ∧ FreeN M r
  | 24 => ∃ C, v = .agg C ∧ Rep C M
  | 25 => ∃ r : Nat, v = .int .i64 (r : Int) ∧ FreeN M r
  | _ => v = .bool false
def plB (g b4 : Nat) (u x : Nat → Value) : Act := ⟨#[u 0, u 1, x 15, .pointer (some ⟨g, 0, none⟩), .pointer (some ⟨b4, 0, none⟩), u 5, u 6, u 7, u 8, u 9, u 10, u 11, u 12, u 13, u 14, u 15, u 16, u 17, u 18, u 19, u 20, u 21, u 22, u 23, u 24, u 25, u 26, u 27, u 28, u 29, u 30, u 31, u 32, u 33, u 34, u 35, u 36, u 37, u 38, u 39, u 40, u 41, u 42, u 43, u 44, u 45, u 46, u 47, u 48, u 49, u 50, u 51, u 52, u 53, u 54, u 55, u 56, u 57, u 58, u 59, u 60, u 61, u 62, u 63, u 64, u 65, u 66, u 67, u 68, u 69, u 70, u 71, u 72, u 73, u 74, u 75, u 76, u 77, u 78, u 79, u 80, u 81, u 82, u 83, u 84, u 85, u 86, u 87, u 88, u 89, u 90, u 91, u 92, u 93, u 94, u 95, u 96, u 97, u 98, u 99, u 100, u 101, u 102, u 103, u 104, u 105, u 106, u 107, u 108, u 109, u 110, u 111, u 112, u 113, u 114, u 115, u 116, u 117, u 118, u 119, u 120, u 121, u 122, u 123, u 124, u 125, u 126, u 127, u 128, u 129, u 130, u 131, u 132, u 133, u 134, u 135, u 136, u 137, u 138, u 139, u 140, u 141, u 142, u 143, u 144, u 145, x 0, x 1, x 2, x 3, x 4, x 5, x 6, x 7, x 8, x 9, x 10, x 11, x 12, x 13, x 14], []⟩
def plW (g : Nat) (M : Nat → Spot) (o : ByteArray) (i : Nat) (v : Value) (w : World) : Prop :=
  match i with
  | 0 => v = .pointer (some ⟨g, 0, none⟩)
  | 1 => IntArg w v (entUp M 256)
  | 2 => ∃ C, v = .agg C ∧ Rep C M
  | 3 => IntArg w v (entUp M 256)
  | 6 => v = .pointer (some ⟨g, 0, none⟩)
  | 7 => v = .string o
  | 8 => ∃ C, v = .agg C ∧ Rep C M
  | 9 => v = .string o
  | _ => v = .bool true
theorem plW.on {g : Nat} {M : Nat → Spot} {o : ByteArray} (i : Nat) (v : Value) (w w' : World) (hb : Below w.heap.size w w') (h : plW g M o i v w) : plW g M o i v w' := by
  unfold plW at h ⊢
  split at h <;> first | exact h | exact IntArg.below h hb
set_option maxHeartbeats 16000000 in
set_option maxRecDepth 1000000 in
theorem walk_imapPlays (v : Value) (l : List Deed) (w : World) (h : DeedArg w v l) (_hwf : ∀ x ∈ l, x.wf) :
    Calls Try.prog 3 #[v] w fun e w' => e = .returned (.bool true) ∧ Below w.heap.size w w' := by
  have hlen : l.length ≤ 9223372036854775807 := Nat.le_trans h.len (by decide)
  obtain ⟨A, c, hv⟩ := h.slice
  subst hv
  have HD := hide h
  clear h
  rcases Nat.lt_or_ge 60 l.length with h60 | h60
  · have h60' : (60 : Int) < (l.length : Int) := by omega
    go_enter Try.func3, Try.ntmps3
    go_wp2_with fail
    refine (awake25 _).mono ?_
    rintro e w1 ⟨rfl, hb1⟩
    go_wp2
    go_ret
    exact ⟨rfl, hb1⟩
  have h60' : ¬ (60 : Int) < (l.length : Int) := by omega
  go_enter Try.func3, Try.ntmps3
  go_wp2_with fail
  refine (new25_any _).mono ?_
  rintro e w1 ⟨rfl, hm1, hb1⟩
  have hgb : w.heap.size < w1.heap.size := hm1.lt
  have HM1 := hide (hm1.below ((Below.refl _ _).alloc (Nat.le_refl _) (.cells Try.zeroCells30 30)))
  have HR1 := hide (rm_new rep_z30 w1)
  have HB1 := hide (hb1.alloc hb1.size (.cells Try.zeroCells30 30))
  clear hm1 hb1
  go_wp2_with (refine wpList_storeR rfl (.tmp 4) (.tmp 25) rfl HR1.out rep_z30 rfl rfl ?_; intro w2 h2 f2; have HR2 : Hid (RM w2 w1.heap.size z25) := hide ⟨_, h2, rep_z30⟩; have HM2 := hide (HM1.out.fr f2 (by omega)); have HB2 := hide (HB1.out.trans (f2.below _ HB1.out.size (fun q hq e => by omega))); clear h2 f2)
  obtain ⟨b4, hb4⟩ : ∃ b, b = w1.heap.size := ⟨_, rfl⟩
  obtain ⟨g, hg⟩ : ∃ g, g = w.heap.size := ⟨_, rfl⟩
  rw [← hb4, ← hg] at hgb
  rw [← hb4] at HR2
  rw [← hg] at HM2
  rw [← hb4, ← hg]
  have HGW := hide hg
  have HST : Hid (PlS w g b4 l.length w2 (.int .i64 0)) := hide ⟨0, z25, rfl, Nat.zero_le _, HM2.out, HR2.out, mokN_zero, HB2.out⟩
  clear hb4 hg HM1 HR1 HB1 HM2 HR2 HB2
  go_wp2_with fail
  go_loopw [5] (fun iv wr => PlS w g b4 l.length wr iv) (fun iv _ => l.length - (intOf iv).toNat)
  case atStart => exact HST.out
  case round =>
    obtain ⟨k, M, rfl, hk, hM, hR, hok, hb⟩ := hrel
    have HB := hide hb
    have HOK := hide hok
    rcases Nat.lt_or_ge k l.length with hkl | hkl
    · obtain ⟨a, cap, hv, hc1, hc2, c0, c1, c2, c3, c4, c5, c6, c7⟩ := (HD.out.below HB.out).cells hkl
      cases hv
      generalize l[k] = d at c0 c1 c2 c3 c4 c5 c6 c7
      have hal := (Below.refl wr.heap.size wr).alloc (Nat.le_refl _) (.cells (dC d d.ver) 32)
      have HM6 := hide (hM.below hal)
      have hR6 := hR.below hal
      have HB6 := hide (hb.alloc hb.size (.cells (dC d d.ver) 32))
      have HD6 := hide (obj_new wr (.cells (dC d d.ver) 32))
      have HGR := hide hM.lt
      have HBR := hide hR.lt
      obtain ⟨b6, hb6⟩ : ∃ b, b = wr.heap.size := ⟨_, rfl⟩
      have h6g : g < b6 := by rw [hb6]; exact hM.lt
      have h64 : b4 < b6 := by rw [hb6]; exact hR.lt
      rw [← hb6] at HD6
      have HB6E := hide hb6
      obtain ⟨C6, hC6, rC6⟩ := hR6
      have HL6 := hide (load30 rC6 hC6)
      have HRC := hide rC6
      have HR6 : Hid (RM (wr.alloc (.cells (dC d d.ver) 32)) b4 M) := hide ⟨C6, hC6, rC6⟩
      clear hal hM hR hok hb hC6 rC6 hb6
      go_wp2_with (refine wpList_loadv rfl 30 (.tmp 4) rfl rfl HL6.out ?_)
      rw [← HB6E.out]
      refine (rget_any C6 M HRC.out d.inode _).mono ?_
      rintro e w7 ⟨rfl, hb7⟩
      obtain ⟨q, hq⟩ : ∃ q, q = (gtOut M d.inode).1 := ⟨_, rfl⟩
      obtain ⟨gb, hgq⟩ : ∃ b, b = (gtOut M d.inode).2 := ⟨_, rfl⟩
      rw [← hq, ← hgq]
      have hbx := hb7.alloc hb7.size (.cells #[.int .i64 q.seg, .int .i64 q.frm, .int .i64 q.len, .int .i64 q.ver] 27)
      have HM7 := hide (HM6.out.below hbx)
      have HR7 := hide (HR6.out.below hbx)
      have HD7 := hide (obj_below HD6.out hbx)
      have HB7 := hide (HB6.out.trans (hbx.mono HB6.out.size))
      have HQ7 := hide (obj_new w7 (.cells #[.int .i64 q.seg, .int .i64 q.frm, .int .i64 q.len, .int .i64 q.ver] 27))
      have h67 : b6 < w7.heap.size := Nat.lt_of_lt_of_le (obj_lt HD6.out) hb7.size
      obtain ⟨v', hv'⟩ : ∃ v' : Int, v' = if (d.now && gb) = true then q.ver else d.ver := ⟨_, rfl⟩
      have HV := hide hv'
      clear hb7 hbx hq hgq HM6 HR6 HD6 HB6 HL6 HRC HGR HBR HB6E hv' c0 c1 c2 c3 c4 c5 c6 c7
      go_upto_region 9 with fail
      have HREL : Hid (PlQ w g b4 b6 w7.heap.size M k d d.ver q (w7.alloc (.cells #[.int .i64 q.seg, .int .i64 q.frm, .int .i64 q.len, .int .i64 q.ver] 27))) := hide ⟨HM7.out, HR7.out, HOK.out, HD7.out, HQ7.out, HB7.out⟩
      go_cut [8, 47] from 26 to 145 (fun _ s47 wx => s47 = .bool (d.now && gb) ∧ PlQ w g b4 b6 w7.heap.size M k d d.ver q wx)
      case first =>
        have z7 := obj_cell HD7.out 7
        simp only [dC, List.getElem?_toArray, List.getElem?_cons_zero, List.getElem?_cons_succ] at z7
        rcases hn : d.now with _ | _
        · rw [hn] at z7
          go_wp2
          go_meet
          case rel => exact ⟨by simp [hn], HREL.out⟩
        · rw [hn] at z7
          go_wp2
          go_meet
          case rel => exact ⟨by simp [hn], HREL.out⟩
      case rest =>
      obtain ⟨rfl, hM, hR, hok, hD, hQ, hb⟩ := hcut
      have HM := hide hM
      have HR := hide hR
      have HDD := hide hD
      have HQQ := hide hQ
      have HB := hide hb
      clear hM hR hok hD hQ hb HM7 HR7 HD7 HB7 HQ7 HREL
      go_upto_if 47 with fail
      go_cut [] from 26 to 145 (fun wx => PlD w g b4 b6 k d v' wx)
      case first =>
        by_cases hng : (d.now && gb) = true
        · have z2 := obj_cell HDD.out 2
          have q3 := obj_cell HQQ.out 3
          simp only [dC, List.getElem?_toArray, List.getElem?_cons_zero, List.getElem?_cons_succ] at z2 q3
          have t2 := obj_frozen HDD.out 2
          have F7 := (Fr.refl (fun j => j = b6) wc).setCell (p := ⟨b6, 2, none⟩) (fun _ => rfl) (.int .i64 q.ver)
          have HREL : Hid (PlD w g b4 b6 k d v' (wc.setCell ⟨b6, 2, none⟩ (.int .i64 q.ver))) := hide ⟨M, HM.out.fr F7 (by omega), HR.out.fr F7 (by omega), HOK.out, by rw [HV.out, if_pos hng]; exact obj_set HDD.out 2 _, HB.out.trans (F7.below _ HB.out.size (fun j hj e => by have := HGW.out; omega))⟩
          clear F7
          rw [hng]
          go_wp2
          go_meet
          case rel => exact HREL.out
        · rw [Bool.not_eq_true] at hng
          have HREL : Hid (PlD w g b4 b6 k d v' wc) := hide ⟨M, HM.out, HR.out, HOK.out, by rw [HV.out, if_neg (by rw [hng]; decide)]; exact HDD.out, HB.out⟩
          rw [hng]
          go_wp2
          go_meet
          case rel => exact HREL.out
      case rest =>
      obtain ⟨M, hM, hR, hok, hD, hb⟩ := hcut
      have HM := hide hM
      have HR := hide hR
      have HOK := hide hok
      have HDD := hide hD
      have HB := hide hb
      have z0 := obj_cell hD 0
      simp only [dC, List.getElem?_toArray, List.getElem?_cons_zero, List.getElem?_cons_succ] at z0
      clear hM hR hok hD hb h67
      go_upto_if 53 with fail
      go_cut [] from 26 to 145 (fun wx => PlD w g b4 b6 (k + 1) d v' wx)
      case first =>
        by_cases hk0 : d.kind = 0
        · rw [hk0] at z0 ⊢
          obtain ⟨C, hC, rC⟩ := HR.out
          have HL := hide (load30 rC hC)
          have HRC := hide rC
          clear hC rC
          have z1 := obj_cell HDD.out 1
          have z2 := obj_cell HDD.out 2
          have z3 := obj_cell HDD.out 3
          have z4 := obj_cell HDD.out 4
          have z5 := obj_cell HDD.out 5
          have z6 := obj_cell HDD.out 6
          simp only [dC, List.getElem?_toArray, List.getElem?_cons_zero, List.getElem?_cons_succ] at z1 z2 z3 z4 z5 z6
          go_wp2_with (refine wpList_loadv rfl 30 (.tmp 4) rfl rfl HL.out ?_)
          refine (rmove_any C M HRC.out (HOK.out.ok (by omega)) d.inode v' d.sp _).mono ?_
          rintro e w8 ⟨⟨C', rC', rfl⟩, hb8⟩
          have hbx := hb8.alloc hb8.size (.cells C' 30)
          have HM8 := hide (HM.out.below hbx)
          have HR8 := hide (HR.out.below hbx)
          have HD8 := hide (obj_below HDD.out hbx)
          have HB8 := hide (HB.out.trans (hbx.mono HB.out.size))
          have hsc := run_storeCells_new (P := Try.prog) w8 30 Try.zeroCells30 C' (by rw [rC'.1]; exact info30s) (by rw [rC'.1, rep_z30.1]) rC'.one
          have hCs := rC'.1
          have HL9 := hide (load30 rC' (obj_new w8 (.cells C' 30)))
          have HRC' := hide rC'
          clear hb8 hbx rC' z1 z2 z3 z4 z5 z6
          go_wp2_with (first | (refine wpList_loadv rfl 30 (.tmp 9) rfl rfl HL9.out ?_) | (refine wpList_storeR rfl (.tmp 4) (.tmp 66) rfl HR8.out HRC'.out rfl rfl ?_; intro w9 h9 f9; have HR9 : Hid (RM w9 b4 (mvOut M d.inode v' d.sp).1) := hide ⟨_, h9, HRC'.out⟩; have HM9 := hide (HM8.out.fr f9 (by omega)); have HD9 := hide (f9.obj HD8.out (by omega)); have HB9 := hide (HB8.out.trans (f9.below _ HB8.out.size (fun j hj e => by have := HGW.out; omega))); clear h9 f9; have zz := HD9.out; (have y1 := obj_cell zz 1; have y2 := obj_cell zz 2; have y3 := obj_cell zz 3; have y4 := obj_cell zz 4; have y5 := obj_cell zz 5; have y6 := obj_cell zz 6; simp only [dC, List.getElem?_toArray, List.getElem?_cons_zero, List.getElem?_cons_succ] at y1 y2 y3 y4 y5 y6) ; clear zz))
          refine (move_any g M d.inode v' d.sp _ HM9.out (HOK.out.ok (by omega))).mono ?_
          rintro e w10 ⟨rfl, hm10, hf10⟩
          have HREL : Hid (PlD w g b4 b6 (k + 1) d v' w10) := hide ⟨_, hm10, HR9.out.fr hf10 (by omega), HOK.out.move d.inode v' d.sp, hf10.obj HD9.out (by omega), HB9.out.trans (hf10.below _ HB9.out.size (fun j hj e => by have := HGW.out; omega))⟩
          clear hm10 hf10 hsc hCs
          generalize (mvOut M d.inode v' d.sp).2.1 = o1 at HREL ⊢
          generalize (mvOut M d.inode v' d.sp).2.2 = o2 at HREL ⊢
          go_wp2
          go_meet
          case rel => exact HREL.out
        · have hk1 : (d.kind == 0) = false := by simp [hk0]
          obtain ⟨C, hC, rC⟩ := HR.out
          have HL := hide (load30 rC hC)
          have HRC := hide rC
          clear hC rC
          have z1 := obj_cell HDD.out 1
          have z2 := obj_cell HDD.out 2
          simp only [dC, List.getElem?_toArray, List.getElem?_cons_zero, List.getElem?_cons_succ] at z1 z2
          go_wp2_with (refine wpList_loadv rfl 30 (.tmp 4) rfl rfl HL.out ?_)
          refine (rdrop_any C M HRC.out d.inode v' _).mono ?_
          rintro e w8 ⟨⟨C', rC', rfl⟩, hb8⟩
          have hbx := hb8.alloc hb8.size (.cells C' 30)
          have HM8 := hide (HM.out.below hbx)
          have HR8 := hide (HR.out.below hbx)
          have HD8 := hide (obj_below HDD.out hbx)
          have HB8 := hide (HB.out.trans (hbx.mono HB.out.size))
          have hsc := run_storeCells_new (P := Try.prog) w8 30 Try.zeroCells30 C' (by rw [rC'.1]; exact info30s) (by rw [rC'.1, rep_z30.1]) rC'.one
          have hCs := rC'.1
          have HL9 := hide (load30 rC' (obj_new w8 (.cells C' 30)))
          have HRC' := hide rC'
          clear hb8 hbx rC' z1 z2
          go_wp2_with (first | (refine wpList_loadv rfl 30 (.tmp 14) rfl rfl HL9.out ?_) | (refine wpList_storeR rfl (.tmp 4) (.tmp 95) rfl HR8.out HRC'.out rfl rfl ?_; intro w9 h9 f9; have HR9 : Hid (RM w9 b4 (dpOut M d.inode v').1) := hide ⟨_, h9, HRC'.out⟩; have HM9 := hide (HM8.out.fr f9 (by omega)); have HD9 := hide (f9.obj HD8.out (by omega)); have HB9 := hide (HB8.out.trans (f9.below _ HB8.out.size (fun j hj e => by have := HGW.out; omega))); clear h9 f9; have zz := HD9.out; (have y1 := obj_cell zz 1; have y2 := obj_cell zz 2; simp only [dC, List.getElem?_toArray, List.getElem?_cons_zero, List.getElem?_cons_succ] at y1 y2) ; clear zz))
          refine (drop_any g M d.inode v' _ HM9.out).mono ?_
          rintro e w10 ⟨rfl, hm10, hf10⟩
          have HREL : Hid (PlD w g b4 b6 (k + 1) d v' w10) := hide ⟨_, hm10, HR9.out.fr hf10 (by omega), (HOK.out.drop (by omega) d.inode v').more (by omega), hf10.obj HD9.out (by omega), HB9.out.trans (hf10.below _ HB9.out.size (fun j hj e => by have := HGW.out; omega))⟩
          clear hm10 hf10 hsc hCs
          generalize (dpOut M d.inode v').2 = o1 at HREL ⊢
          go_wp2
          go_meet
          case rel => exact HREL.out
      case rest =>
      obtain ⟨M, hM, hR, hok, hD, hb⟩ := hcut
      have HM := hide hM
      have HR := hide hR
      have HOK := hide hok
      have HDD := hide hD
      have HB := hide hb
      have z1 := obj_cell hD 1
      simp only [dC, List.getElem?_toArray, List.getElem?_cons_zero, List.getElem?_cons_succ] at z1
      have hl6 := obj_lt hD
      clear hM hR hok hD hb z0
      go_wp2_with fail
      refine (get_any g M d.inode _ HM.out).mono ?_
      rintro e w11 ⟨rfl, hb11⟩
      obtain ⟨q, hq⟩ : ∃ q, q = (gtOut M d.inode).1 := ⟨_, rfl⟩
      obtain ⟨gb, hgq⟩ : ∃ b, b = (gtOut M d.inode).2 := ⟨_, rfl⟩
      rw [← hq, ← hgq]
      have HQE := hide hq
      have HGE := hide hgq
      have hbx := hb11.alloc hb11.size (.cells #[.int .i64 q.seg, .int .i64 q.frm, .int .i64 q.len, .int .i64 q.ver] 27)
      have HM11 := hide (HM.out.below hbx)
      have hR11 := HR.out.below hbx
      have HD11 := hide (obj_below HDD.out hbx)
      have HB11 := hide (HB.out.trans (hbx.mono HB.out.size))
      have HQ11 := hide (obj_new w11 (.cells #[.int .i64 q.seg, .int .i64 q.frm, .int .i64 q.len, .int .i64 q.ver] 27))
      obtain ⟨C, hC, rC⟩ := hR11
      have HL := hide (load30 rC hC)
      have HRC := hide rC
      have HR11 : Hid (RM (w11.alloc (.cells #[.int .i64 q.seg, .int .i64 q.frm, .int .i64 q.len, .int .i64 q.ver] 27)) b4 M) := hide ⟨C, hC, rC⟩
      have z1 := obj_cell HD11.out 1
      simp only [dC, List.getElem?_toArray, List.getElem?_cons_zero, List.getElem?_cons_succ] at z1
      clear hb11 hbx hC rC hq hgq
      go_wp2_with (refine wpList_loadv rfl 30 (.tmp 4) rfl rfl HL.out ?_)
      refine (rget_any C M HRC.out d.inode _).mono ?_
      rintro e w12 ⟨rfl, hb12⟩
      rw [← HQE.out, ← HGE.out]
      have hbx := hb12.alloc hb12.size (.cells #[.int .i64 q.seg, .int .i64 q.frm, .int .i64 q.len, .int .i64 q.ver] 27)
      have HM12 := hide (HM11.out.below hbx)
      have HR12 := hide (HR11.out.below hbx)
      have HD12 := hide (obj_below HD11.out hbx)
      have HB12 := hide (HB11.out.trans (hbx.mono HB11.out.size))
      have HQ12 := hide (obj_below HQ11.out hbx)
      have HX12 := hide (obj_new w12 (.cells #[.int .i64 q.seg, .int .i64 q.frm, .int .i64 q.len, .int .i64 q.ver] 27))
      clear hb12 hbx z1
      go_upto_region 23 with fail
      obtain ⟨b16, hb16⟩ : ∃ b, b = w11.heap.size := ⟨_, rfl⟩
      obtain ⟨b18, hb18⟩ : ∃ b, b = w12.heap.size := ⟨_, rfl⟩
      rw [← hb16] at HQ12
      rw [← hb18] at HX12
      rw [← hb16, ← hb18]
      have HPT : Hid (PlT w g b4 b6 b16 b18 M d v' q (w12.alloc (.cells #[.int .i64 q.seg, .int .i64 q.frm, .int .i64 q.len, .int .i64 q.ver] 27))) := hide ⟨HM12.out, HR12.out, HD12.out, HQ12.out, HX12.out, HB12.out⟩
      have H00 := hide HOK.out.1
      clear hb16 hb18 HM12 HR12 HD12 HQ12 HX12 HB12 HM11 HR11 HD11 HB11 HQ11 HL HRC HQE HGE HM HR HDD HB
      go_cut [145] from 26 to 145 (fun s145 wx => s145 = .bool false ∧ PlT w g b4 b6 b16 b18 M d v' q wx)
      case first =>
        refine wp_region_valsF (plA g b4 b6 b16 b18 gb) (fun j => 118 + j) (PlT w g b4 b6 b16 b18 M d v' q) (plV g b6 M d q gb) (by kernel_rfl) (by kernel_rfl) rfl (fun _ _ hb h => h.on hb) (fun _ _ _ _ _ h => h) (show PlT w g b4 b6 b16 b18 M d v' q (World.drew _) from ⟨HPT.out.1, HPT.out.2.1, HPT.out.2.2.1, HPT.out.2.2.2.1, HPT.out.2.2.2.2.1, HPT.out.2.2.2.2.2.drew⟩) ?_ ?_ ?_
        · exact fun u => ⟨fun x v => rfl, fun x v => rfl, fun x v => rfl, fun x v => rfl, fun x v => rfl, fun x v => rfl, fun x v => rfl, fun x v => rfl, fun x v => rfl, fun x v => rfl, fun x v => rfl, fun x v => rfl, fun x v => rfl, fun x v => rfl, fun x v => rfl, fun x v => rfl, fun x v => rfl, fun x v => rfl, fun x v => rfl, fun x v => rfl, fun x v => rfl, fun x v => rfl, fun x v => rfl, fun x v => rfl, fun x v => rfl, fun x v => rfl, fun x v => rfl, fun x v => rfl, trivial⟩
        · refine fun u => ⟨?_, ?_, ?_, ?_, ?_, ?_, ?_, ?_, ?_, ?_, ?_, ?_, ?_, ?_, ?_, ?_, ?_, ?_, ?_, ?_, ?_, ?_, ?_, ?_, ?_, ?_, ?_, ?_, trivial⟩
          · intro x w' hS hd K hK
            refine ⟨rfl, ?_⟩
            unfold plA at hK ⊢
            have hE := hS.2.2.2.1
            have z0 := obj_cell hE 0
            have z1 := obj_cell hE 1
            have z2 := obj_cell hE 2
            have z3 := obj_cell hE 3
            simp only [List.getElem?_toArray, List.getElem?_cons_zero, List.getElem?_cons_succ] at z0 z1 z2 z3
            go_wp2
            exact hK (.agg #[.int .i64 q.seg, .int .i64 q.frm, .int .i64 q.len, .int .i64 q.ver]) w' (Below.refl _ _) rfl
          · intro x w' hS hd K hK
            refine ⟨rfl, ?_⟩
            unfold plA at hK ⊢
            have hE := hS.2.2.2.2.1
            have z0 := obj_cell hE 0
            have z1 := obj_cell hE 1
            have z2 := obj_cell hE 2
            have z3 := obj_cell hE 3
            simp only [List.getElem?_toArray, List.getElem?_cons_zero, List.getElem?_cons_succ] at z0 z1 z2 z3
            go_wp2
            exact hK (.agg #[.int .i64 q.seg, .int .i64 q.frm, .int .i64 q.len, .int .i64 q.ver]) w' (Below.refl _ _) rfl
          · intro x w' hS hd K hK
            have d0 : x 0 = .agg #[.int .i64 q.seg, .int .i64 q.frm, .int .i64 q.len, .int .i64 q.ver] := by first | exact hd _ List.mem_cons_self | exact hd _ (List.mem_cons_of_mem _ List.mem_cons_self) | exact hd _ (List.mem_cons_of_mem _ (List.mem_cons_of_mem _ List.mem_cons_self)) | exact hd _ (List.mem_cons_of_mem _ (List.mem_cons_of_mem _ (List.mem_cons_of_mem _ List.mem_cons_self))) | exact hd _ (List.mem_cons_of_mem _ (List.mem_cons_of_mem _ (List.mem_cons_of_mem _ (List.mem_cons_of_mem _ List.mem_cons_self)))) | exact hd _ (List.mem_cons_of_mem _ (List.mem_cons_of_mem _ (List.mem_cons_of_mem _ (List.mem_cons_of_mem _ (List.mem_cons_of_mem _ List.mem_cons_self))))) | exact hd _ (List.mem_cons_of_mem _ (List.mem_cons_of_mem _ (List.mem_cons_of_mem _ (List.mem_cons_of_mem _ (List.mem_cons_of_mem _ (List.mem_cons_of_mem _ List.mem_cons_self)))))) | exact hd _ (List.mem_cons_of_mem _ (List.mem_cons_of_mem _ (List.mem_cons_of_mem _ (List.mem_cons_of_mem _ (List.mem_cons_of_mem _ (List.mem_cons_of_mem _ (List.mem_cons_of_mem _ List.mem_cons_self)))))))
            have d1 : x 1 = .agg #[.int .i64 q.seg, .int .i64 q.frm, .int .i64 q.len, .int .i64 q.ver] := by first | exact hd _ List.mem_cons_self | exact hd _ (List.mem_cons_of_mem _ List.mem_cons_self) | exact hd _ (List.mem_cons_of_mem _ (List.mem_cons_of_mem _ List.mem_cons_self)) | exact hd _ (List.mem_cons_of_mem _ (List.mem_cons_of_mem _ (List.mem_cons_of_mem _ List.mem_cons_self))) | exact hd _ (List.mem_cons_of_mem _ (List.mem_cons_of_mem _ (List.mem_cons_of_mem _ (List.mem_cons_of_mem _ List.mem_cons_self)))) | exact hd _ (List.mem_cons_of_mem _ (List.mem_cons_of_mem _ (List.mem_cons_of_mem _ (List.mem_cons_of_mem _ (List.mem_cons_of_mem _ List.mem_cons_self))))) | exact hd _ (List.mem_cons_of_mem _ (List.mem_cons_of_mem _ (List.mem_cons_of_mem _ (List.mem_cons_of_mem _ (List.mem_cons_of_mem _ (List.mem_cons_of_mem _ List.mem_cons_self)))))) | exact hd _ (List.mem_cons_of_mem _ (List.mem_cons_of_mem _ (List.mem_cons_of_mem _ (List.mem_cons_of_mem _ (List.mem_cons_of_mem _ (List.mem_cons_of_mem _ (List.mem_cons_of_mem _ List.mem_cons_self)))))))
            refine ⟨rfl, ?_⟩
            unfold plA at hK ⊢
            simp only [d0, d1] at hK ⊢
            go_wp2
            exact hK (.bool false) w' (Below.refl _ _) rfl
          · intro x w' hS hd K hK
            have d0 : x 2 = .bool false := by first | exact hd _ List.mem_cons_self | exact hd _ (List.mem_cons_of_mem _ List.mem_cons_self) | exact hd _ (List.mem_cons_of_mem _ (List.mem_cons_of_mem _ List.mem_cons_self)) | exact hd _ (List.mem_cons_of_mem _ (List.mem_cons_of_mem _ (List.mem_cons_of_mem _ List.mem_cons_self))) | exact hd _ (List.mem_cons_of_mem _ (List.mem_cons_of_mem _ (List.mem_cons_of_mem _ (List.mem_cons_of_mem _ List.mem_cons_self)))) | exact hd _ (List.mem_cons_of_mem _ (List.mem_cons_of_mem _ (List.mem_cons_of_mem _ (List.mem_cons_of_mem _ (List.mem_cons_of_mem _ List.mem_cons_self))))) | exact hd _ (List.mem_cons_of_mem _ (List.mem_cons_of_mem _ (List.mem_cons_of_mem _ (List.mem_cons_of_mem _ (List.mem_cons_of_mem _ (List.mem_cons_of_mem _ List.mem_cons_self)))))) | exact hd _ (List.mem_cons_of_mem _ (List.mem_cons_of_mem _ (List.mem_cons_of_mem _ (List.mem_cons_of_mem _ (List.mem_cons_of_mem _ (List.mem_cons_of_mem _ (List.mem_cons_of_mem _ List.mem_cons_self)))))))
            refine ⟨rfl, ?_⟩
            unfold plA at hK ⊢
            simp only [d0] at hK ⊢
            go_wp2
            exact hK (.bool false) w' (Below.refl _ _) rfl
          · intro x w' hS hd K hK
            have d0 : x 3 = .bool false := by first | exact hd _ List.mem_cons_self | exact hd _ (List.mem_cons_of_mem _ List.mem_cons_self) | exact hd _ (List.mem_cons_of_mem _ (List.mem_cons_of_mem _ List.mem_cons_self)) | exact hd _ (List.mem_cons_of_mem _ (List.mem_cons_of_mem _ (List.mem_cons_of_mem _ List.mem_cons_self))) | exact hd _ (List.mem_cons_of_mem _ (List.mem_cons_of_mem _ (List.mem_cons_of_mem _ (List.mem_cons_of_mem _ List.mem_cons_self)))) | exact hd _ (List.mem_cons_of_mem _ (List.mem_cons_of_mem _ (List.mem_cons_of_mem _ (List.mem_cons_of_mem _ (List.mem_cons_of_mem _ List.mem_cons_self))))) | exact hd _ (List.mem_cons_of_mem _ (List.mem_cons_of_mem _ (List.mem_cons_of_mem _ (List.mem_cons_of_mem _ (List.mem_cons_of_mem _ (List.mem_cons_of_mem _ List.mem_cons_self)))))) | exact hd _ (List.mem_cons_of_mem _ (List.mem_cons_of_mem _ (List.mem_cons_of_mem _ (List.mem_cons_of_mem _ (List.mem_cons_of_mem _ (List.mem_cons_of_mem _ (List.mem_cons_of_mem _ List.mem_cons_self)))))))
            refine ⟨by unfold plA; rw [d0]; rfl, ?_⟩
            unfold plA at hK ⊢
            simp only [d0] at hK ⊢
            go_wp2
            exact hK (.bool gb) w' (Below.refl _ _) rfl
          · intro x w' hS hd K hK
            have d0 : x 3 = .bool false := by first | exact hd _ List.mem_cons_self | exact hd _ (List.mem_cons_of_mem _ List.mem_cons_self) | exact hd _ (List.mem_cons_of_mem _ (List.mem_cons_of_mem _ List.mem_cons_self)) | exact hd _ (List.mem_cons_of_mem _ (List.mem_cons_of_mem _ (List.mem_cons_of_mem _ List.mem_cons_self))) | exact hd _ (List.mem_cons_of_mem _ (List.mem_cons_of_mem _ (List.mem_cons_of_mem _ (List.mem_cons_of_mem _ List.mem_cons_self)))) | exact hd _ (List.mem_cons_of_mem _ (List.mem_cons_of_mem _ (List.mem_cons_of_mem _ (List.mem_cons_of_mem _ (List.mem_cons_of_mem _ List.mem_cons_self))))) | exact hd _ (List.mem_cons_of_mem _ (List.mem_cons_of_mem _ (List.mem_cons_of_mem _ (List.mem_cons_of_mem _ (List.mem_cons_of_mem _ (List.mem_cons_of_mem _ List.mem_cons_self)))))) | exact hd _ (List.mem_cons_of_mem _ (List.mem_cons_of_mem _ (List.mem_cons_of_mem _ (List.mem_cons_of_mem _ (List.mem_cons_of_mem _ (List.mem_cons_of_mem _ (List.mem_cons_of_mem _ List.mem_cons_self)))))))
            refine ⟨by unfold plA; rw [d0]; rfl, ?_⟩
            unfold plA at hK ⊢
            simp only [d0] at hK ⊢
            go_wp2
            exact hK (.bool gb) w' (Below.refl _ _) rfl
          · intro x w' hS hd K hK
            have d0 : x 4 = .bool gb := by first | exact hd _ List.mem_cons_self | exact hd _ (List.mem_cons_of_mem _ List.mem_cons_self) | exact hd _ (List.mem_cons_of_mem _ (List.mem_cons_of_mem _ List.mem_cons_self)) | exact hd _ (List.mem_cons_of_mem _ (List.mem_cons_of_mem _ (List.mem_cons_of_mem _ List.mem_cons_self))) | exact hd _ (List.mem_cons_of_mem _ (List.mem_cons_of_mem _ (List.mem_cons_of_mem _ (List.mem_cons_of_mem _ List.mem_cons_self)))) | exact hd _ (List.mem_cons_of_mem _ (List.mem_cons_of_mem _ (List.mem_cons_of_mem _ (List.mem_cons_of_mem _ (List.mem_cons_of_mem _ List.mem_cons_self))))) | exact hd _ (List.mem_cons_of_mem _ (List.mem_cons_of_mem _ (List.mem_cons_of_mem _ (List.mem_cons_of_mem _ (List.mem_cons_of_mem _ (List.mem_cons_of_mem _ List.mem_cons_self)))))) | exact hd _ (List.mem_cons_of_mem _ (List.mem_cons_of_mem _ (List.mem_cons_of_mem _ (List.mem_cons_of_mem _ (List.mem_cons_of_mem _ (List.mem_cons_of_mem _ (List.mem_cons_of_mem _ List.mem_cons_self)))))))
            have d1 : x 5 = .bool gb := by first | exact hd _ List.mem_cons_self | exact hd _ (List.mem_cons_of_mem _ List.mem_cons_self) | exact hd _ (List.mem_cons_of_mem _ (List.mem_cons_of_mem _ List.mem_cons_self)) | exact hd _ (List.mem_cons_of_mem _ (List.mem_cons_of_mem _ (List.mem_cons_of_mem _ List.mem_cons_self))) | exact hd _ (List.mem_cons_of_mem _ (List.mem_cons_of_mem _ (List.mem_cons_of_mem _ (List.mem_cons_of_mem _ List.mem_cons_self)))) | exact hd _ (List.mem_cons_of_mem _ (List.mem_cons_of_mem _ (List.mem_cons_of_mem _ (List.mem_cons_of_mem _ (List.mem_cons_of_mem _ List.mem_cons_self))))) | exact hd _ (List.mem_cons_of_mem _ (List.mem_cons_of_mem _ (List.mem_cons_of_mem _ (List.mem_cons_of_mem _ (List.mem_cons_of_mem _ (List.mem_cons_of_mem _ List.mem_cons_self)))))) | exact hd _ (List.mem_cons_of_mem _ (List.mem_cons_of_mem _ (List.mem_cons_of_mem _ (List.mem_cons_of_mem _ (List.mem_cons_of_mem _ (List.mem_cons_of_mem _ (List.mem_cons_of_mem _ List.mem_cons_self)))))))
            have d2 : x 3 = .bool false := by first | exact hd _ List.mem_cons_self | exact hd _ (List.mem_cons_of_mem _ List.mem_cons_self) | exact hd _ (List.mem_cons_of_mem _ (List.mem_cons_of_mem _ List.mem_cons_self)) | exact hd _ (List.mem_cons_of_mem _ (List.mem_cons_of_mem _ (List.mem_cons_of_mem _ List.mem_cons_self))) | exact hd _ (List.mem_cons_of_mem _ (List.mem_cons_of_mem _ (List.mem_cons_of_mem _ (List.mem_cons_of_mem _ List.mem_cons_self)))) | exact hd _ (List.mem_cons_of_mem _ (List.mem_cons_of_mem _ (List.mem_cons_of_mem _ (List.mem_cons_of_mem _ (List.mem_cons_of_mem _ List.mem_cons_self))))) | exact hd _ (List.mem_cons_of_mem _ (List.mem_cons_of_mem _ (List.mem_cons_of_mem _ (List.mem_cons_of_mem _ (List.mem_cons_of_mem _ (List.mem_cons_of_mem _ List.mem_cons_self)))))) | exact hd _ (List.mem_cons_of_mem _ (List.mem_cons_of_mem _ (List.mem_cons_of_mem _ (List.mem_cons_of_mem _ (List.mem_cons_of_mem _ (List.mem_cons_of_mem _ (List.mem_cons_of_mem _ List.mem_cons_self)))))))
            refine ⟨by unfold plA; rw [d2]; rfl, ?_⟩
            unfold plA at hK ⊢
            simp only [d0, d1, d2] at hK ⊢
            go_wp2
            exact hK (.bool false) w' (Below.refl _ _) rfl
          · intro x w' hS hd K hK
            have d0 : x 3 = .bool false := by first | exact hd _ List.mem_cons_self | exact hd _ (List.mem_cons_of_mem _ List.mem_cons_self) | exact hd _ (List.mem_cons_of_mem _ (List.mem_cons_of_mem _ List.mem_cons_self)) | exact hd _ (List.mem_cons_of_mem _ (List.mem_cons_of_mem _ (List.mem_cons_of_mem _ List.mem_cons_self))) | exact hd _ (List.mem_cons_of_mem _ (List.mem_cons_of_mem _ (List.mem_cons_of_mem _ (List.mem_cons_of_mem _ List.mem_cons_self)))) | exact hd _ (List.mem_cons_of_mem _ (List.mem_cons_of_mem _ (List.mem_cons_of_mem _ (List.mem_cons_of_mem _ (List.mem_cons_of_mem _ List.mem_cons_self))))) | exact hd _ (List.mem_cons_of_mem _ (List.mem_cons_of_mem _ (List.mem_cons_of_mem _ (List.mem_cons_of_mem _ (List.mem_cons_of_mem _ (List.mem_cons_of_mem _ List.mem_cons_self)))))) | exact hd _ (List.mem_cons_of_mem _ (List.mem_cons_of_mem _ (List.mem_cons_of_mem _ (List.mem_cons_of_mem _ (List.mem_cons_of_mem _ (List.mem_cons_of_mem _ (List.mem_cons_of_mem _ List.mem_cons_self)))))))
            have d1 : x 6 = .bool false := by first | exact hd _ List.mem_cons_self | exact hd _ (List.mem_cons_of_mem _ List.mem_cons_self) | exact hd _ (List.mem_cons_of_mem _ (List.mem_cons_of_mem _ List.mem_cons_self)) | exact hd _ (List.mem_cons_of_mem _ (List.mem_cons_of_mem _ (List.mem_cons_of_mem _ List.mem_cons_self))) | exact hd _ (List.mem_cons_of_mem _ (List.mem_cons_of_mem _ (List.mem_cons_of_mem _ (List.mem_cons_of_mem _ List.mem_cons_self)))) | exact hd _ (List.mem_cons_of_mem _ (List.mem_cons_of_mem _ (List.mem_cons_of_mem _ (List.mem_cons_of_mem _ (List.mem_cons_of_mem _ List.mem_cons_self))))) | exact hd _ (List.mem_cons_of_mem _ (List.mem_cons_of_mem _ (List.mem_cons_of_mem _ (List.mem_cons_of_mem _ (List.mem_cons_of_mem _ (List.mem_cons_of_mem _ List.mem_cons_self)))))) | exact hd _ (List.mem_cons_of_mem _ (List.mem_cons_of_mem _ (List.mem_cons_of_mem _ (List.mem_cons_of_mem _ (List.mem_cons_of_mem _ (List.mem_cons_of_mem _ (List.mem_cons_of_mem _ List.mem_cons_self)))))))
            refine ⟨rfl, ?_⟩
            unfold plA at hK ⊢
            simp only [d0, d1] at hK ⊢
            go_wp2
            exact hK (.bool false) w' (Below.refl _ _) rfl
          · intro x w' hS hd K hK
            have d0 : x 7 = .bool false := by first | exact hd _ List.mem_cons_self | exact hd _ (List.mem_cons_of_mem _ List.mem_cons_self) | exact hd _ (List.mem_cons_of_mem _ (List.mem_cons_of_mem _ List.mem_cons_self)) | exact hd _ (List.mem_cons_of_mem _ (List.mem_cons_of_mem _ (List.mem_cons_of_mem _ List.mem_cons_self))) | exact hd _ (List.mem_cons_of_mem _ (List.mem_cons_of_mem _ (List.mem_cons_of_mem _ (List.mem_cons_of_mem _ List.mem_cons_self)))) | exact hd _ (List.mem_cons_of_mem _ (List.mem_cons_of_mem _ (List.mem_cons_of_mem _ (List.mem_cons_of_mem _ (List.mem_cons_of_mem _ List.mem_cons_self))))) | exact hd _ (List.mem_cons_of_mem _ (List.mem_cons_of_mem _ (List.mem_cons_of_mem _ (List.mem_cons_of_mem _ (List.mem_cons_of_mem _ (List.mem_cons_of_mem _ List.mem_cons_self)))))) | exact hd _ (List.mem_cons_of_mem _ (List.mem_cons_of_mem _ (List.mem_cons_of_mem _ (List.mem_cons_of_mem _ (List.mem_cons_of_mem _ (List.mem_cons_of_mem _ (List.mem_cons_of_mem _ List.mem_cons_self)))))))
            refine ⟨rfl, ?_⟩
            unfold plA at hK ⊢
            simp only [d0] at hK ⊢
            go_wp2
            exact hK (.bool false) w' (Below.refl _ _) rfl
          · intro x w' hS hd K hK
            have d0 : x 8 = .bool false := by first | exact hd _ List.mem_cons_self | exact hd _ (List.mem_cons_of_mem _ List.mem_cons_self) | exact hd _ (List.mem_cons_of_mem _ (List.mem_cons_of_mem _ List.mem_cons_self)) | exact hd _ (List.mem_cons_of_mem _ (List.mem_cons_of_mem _ (List.mem_cons_of_mem _ List.mem_cons_self))) | exact hd _ (List.mem_cons_of_mem _ (List.mem_cons_of_mem _ (List.mem_cons_of_mem _ (List.mem_cons_of_mem _ List.mem_cons_self)))) | exact hd _ (List.mem_cons_of_mem _ (List.mem_cons_of_mem _ (List.mem_cons_of_mem _ (List.mem_cons_of_mem _ (List.mem_cons_of_mem _ List.mem_cons_self))))) | exact hd _ (List.mem_cons_of_mem _ (List.mem_cons_of_mem _ (List.mem_cons_of_mem _ (List.mem_cons_of_mem _ (List.mem_cons_of_mem _ (List.mem_cons_of_mem _ List.mem_cons_self)))))) | exact hd _ (List.mem_cons_of_mem _ (List.mem_cons_of_mem _ (List.mem_cons_of_mem _ (List.mem_cons_of_mem _ (List.mem_cons_of_mem _ (List.mem_cons_of_mem _ (List.mem_cons_of_mem _ List.mem_cons_self)))))))
            refine ⟨by unfold plA; rw [d0]; rfl, ?_⟩
            unfold plA at hK ⊢
            simp only [d0] at hK ⊢
            go_wp2
            exact hK (.pointer (some ⟨g, 0, none⟩)) w' (Below.refl _ _) rfl
          · intro x w' hS hd K hK
            have d0 : x 8 = .bool false := by first | exact hd _ List.mem_cons_self | exact hd _ (List.mem_cons_of_mem _ List.mem_cons_self) | exact hd _ (List.mem_cons_of_mem _ (List.mem_cons_of_mem _ List.mem_cons_self)) | exact hd _ (List.mem_cons_of_mem _ (List.mem_cons_of_mem _ (List.mem_cons_of_mem _ List.mem_cons_self))) | exact hd _ (List.mem_cons_of_mem _ (List.mem_cons_of_mem _ (List.mem_cons_of_mem _ (List.mem_cons_of_mem _ List.mem_cons_self)))) | exact hd _ (List.mem_cons_of_mem _ (List.mem_cons_of_mem _ (List.mem_cons_of_mem _ (List.mem_cons_of_mem _ (List.mem_cons_of_mem _ List.mem_cons_self))))) | exact hd _ (List.mem_cons_of_mem _ (List.mem_cons_of_mem _ (List.mem_cons_of_mem _ (List.mem_cons_of_mem _ (List.mem_cons_of_mem _ (List.mem_cons_of_mem _ List.mem_cons_self)))))) | exact hd _ (List.mem_cons_of_mem _ (List.mem_cons_of_mem _ (List.mem_cons_of_mem _ (List.mem_cons_of_mem _ (List.mem_cons_of_mem _ (List.mem_cons_of_mem _ (List.mem_cons_of_mem _ List.mem_cons_self)))))))
            refine ⟨by unfold plA; rw [d0]; rfl, ?_⟩
            unfold plA at hK ⊢
            simp only [d0] at hK ⊢
            go_wp2
            exact hK (.pointer (some ⟨b6, 3, none⟩)) w' (Below.refl _ _) rfl
          · intro x w' hS hd K hK
            have d0 : x 10 = .pointer (some ⟨b6, 3, none⟩) := by first | exact hd _ List.mem_cons_self | exact hd _ (List.mem_cons_of_mem _ List.mem_cons_self) | exact hd _ (List.mem_cons_of_mem _ (List.mem_cons_of_mem _ List.mem_cons_self)) | exact hd _ (List.mem_cons_of_mem _ (List.mem_cons_of_mem _ (List.mem_cons_of_mem _ List.mem_cons_self))) | exact hd _ (List.mem_cons_of_mem _ (List.mem_cons_of_mem _ (List.mem_cons_of_mem _ (List.mem_cons_of_mem _ List.mem_cons_self)))) | exact hd _ (List.mem_cons_of_mem _ (List.mem_cons_of_mem _ (List.mem_cons_of_mem _ (List.mem_cons_of_mem _ (List.mem_cons_of_mem _ List.mem_cons_self))))) | exact hd _ (List.mem_cons_of_mem _ (List.mem_cons_of_mem _ (List.mem_cons_of_mem _ (List.mem_cons_of_mem _ (List.mem_cons_of_mem _ (List.mem_cons_of_mem _ List.mem_cons_self)))))) | exact hd _ (List.mem_cons_of_mem _ (List.mem_cons_of_mem _ (List.mem_cons_of_mem _ (List.mem_cons_of_mem _ (List.mem_cons_of_mem _ (List.mem_cons_of_mem _ (List.mem_cons_of_mem _ List.mem_cons_self)))))))
            have d1 : x 8 = .bool false := by first | exact hd _ List.mem_cons_self | exact hd _ (List.mem_cons_of_mem _ List.mem_cons_self) | exact hd _ (List.mem_cons_of_mem _ (List.mem_cons_of_mem _ List.mem_cons_self)) | exact hd _ (List.mem_cons_of_mem _ (List.mem_cons_of_mem _ (List.mem_cons_of_mem _ List.mem_cons_self))) | exact hd _ (List.mem_cons_of_mem _ (List.mem_cons_of_mem _ (List.mem_cons_of_mem _ (List.mem_cons_of_mem _ List.mem_cons_self)))) | exact hd _ (List.mem_cons_of_mem _ (List.mem_cons_of_mem _ (List.mem_cons_of_mem _ (List.mem_cons_of_mem _ (List.mem_cons_of_mem _ List.mem_cons_self))))) | exact hd _ (List.mem_cons_of_mem _ (List.mem_cons_of_mem _ (List.mem_cons_of_mem _ (List.mem_cons_of_mem _ (List.mem_cons_of_mem _ (List.mem_cons_of_mem _ List.mem_cons_self)))))) | exact hd _ (List.mem_cons_of_mem _ (List.mem_cons_of_mem _ (List.mem_cons_of_mem _ (List.mem_cons_of_mem _ (List.mem_cons_of_mem _ (List.mem_cons_of_mem _ (List.mem_cons_of_mem _ List.mem_cons_self)))))))
            refine ⟨by unfold plA; rw [d1]; rfl, ?_⟩
            unfold plA at hK ⊢
            simp only [d0, d1] at hK ⊢
            go_wp2
            exact hK (.pointer (some ⟨b6, 3, none⟩)) w' (Below.refl _ _) rfl
          · intro x w' hS hd K hK
            have d0 : x 11 = .pointer (some ⟨b6, 3, none⟩) := by first | exact hd _ List.mem_cons_self | exact hd _ (List.mem_cons_of_mem _ List.mem_cons_self) | exact hd _ (List.mem_cons_of_mem _ (List.mem_cons_of_mem _ List.mem_cons_self)) | exact hd _ (List.mem_cons_of_mem _ (List.mem_cons_of_mem _ (List.mem_cons_of_mem _ List.mem_cons_self))) | exact hd _ (List.mem_cons_of_mem _ (List.mem_cons_of_mem _ (List.mem_cons_of_mem _ (List.mem_cons_of_mem _ List.mem_cons_self)))) | exact hd _ (List.mem_cons_of_mem _ (List.mem_cons_of_mem _ (List.mem_cons_of_mem _ (List.mem_cons_of_mem _ (List.mem_cons_of_mem _ List.mem_cons_self))))) | exact hd _ (List.mem_cons_of_mem _ (List.mem_cons_of_mem _ (List.mem_cons_of_mem _ (List.mem_cons_of_mem _ (List.mem_cons_of_mem _ (List.mem_cons_of_mem _ List.mem_cons_self)))))) | exact hd _ (List.mem_cons_of_mem _ (List.mem_cons_of_mem _ (List.mem_cons_of_mem _ (List.mem_cons_of_mem _ (List.mem_cons_of_mem _ (List.mem_cons_of_mem _ (List.mem_cons_of_mem _ List.mem_cons_self)))))))
            have d1 : x 8 = .bool false := by first | exact hd _ List.mem_cons_self | exact hd _ (List.mem_cons_of_mem _ List.mem_cons_self) | exact hd _ (List.mem_cons_of_mem _ (List.mem_cons_of_mem _ List.mem_cons_self)) | exact hd _ (List.mem_cons_of_mem _ (List.mem_cons_of_mem _ (List.mem_cons_of_mem _ List.mem_cons_self))) | exact hd _ (List.mem_cons_of_mem _ (List.mem_cons_of_mem _ (List.mem_cons_of_mem _ (List.mem_cons_of_mem _ List.mem_cons_self)))) | exact hd _ (List.mem_cons_of_mem _ (List.mem_cons_of_mem _ (List.mem_cons_of_mem _ (List.mem_cons_of_mem _ (List.mem_cons_of_mem _ List.mem_cons_self))))) | exact hd _ (List.mem_cons_of_mem _ (List.mem_cons_of_mem _ (List.mem_cons_of_mem _ (List.mem_cons_of_mem _ (List.mem_cons_of_mem _ (List.mem_cons_of_mem _ List.mem_cons_self)))))) | exact hd _ (List.mem_cons_of_mem _ (List.mem_cons_of_mem _ (List.mem_cons_of_mem _ (List.mem_cons_of_mem _ (List.mem_cons_of_mem _ (List.mem_cons_of_mem _ (List.mem_cons_of_mem _ List.mem_cons_self)))))))
            refine ⟨by unfold plA; rw [d1]; rfl, ?_⟩
            unfold plA at hK ⊢
            simp only [d0, d1] at hK ⊢
            have z3 := obj_cell hS.2.2.1 3
            simp only [dC, List.getElem?_toArray, List.getElem?_cons_zero, List.getElem?_cons_succ] at z3
            go_wp2
            exact hK (.int .i64 d.sp.seg) w' (Below.refl _ _) rfl
          · intro x w' hS hd K hK
            have d0 : x 9 = .pointer (some ⟨g, 0, none⟩) := by first | exact hd _ List.mem_cons_self | exact hd _ (List.mem_cons_of_mem _ List.mem_cons_self) | exact hd _ (List.mem_cons_of_mem _ (List.mem_cons_of_mem _ List.mem_cons_self)) | exact hd _ (List.mem_cons_of_mem _ (List.mem_cons_of_mem _ (List.mem_cons_of_mem _ List.mem_cons_self))) | exact hd _ (List.mem_cons_of_mem _ (List.mem_cons_of_mem _ (List.mem_cons_of_mem _ (List.mem_cons_of_mem _ List.mem_cons_self)))) | exact hd _ (List.mem_cons_of_mem _ (List.mem_cons_of_mem _ (List.mem_cons_of_mem _ (List.mem_cons_of_mem _ (List.mem_cons_of_mem _ List.mem_cons_self))))) | exact hd _ (List.mem_cons_of_mem _ (List.mem_cons_of_mem _ (List.mem_cons_of_mem _ (List.mem_cons_of_mem _ (List.mem_cons_of_mem _ (List.mem_cons_of_mem _ List.mem_cons_self)))))) | exact hd _ (List.mem_cons_of_mem _ (List.mem_cons_of_mem _ (List.mem_cons_of_mem _ (List.mem_cons_of_mem _ (List.mem_cons_of_mem _ (List.mem_cons_of_mem _ (List.mem_cons_of_mem _ List.mem_cons_self)))))))
            have d1 : x 12 = .int .i64 d.sp.seg := by first | exact hd _ List.mem_cons_self | exact hd _ (List.mem_cons_of_mem _ List.mem_cons_self) | exact hd _ (List.mem_cons_of_mem _ (List.mem_cons_of_mem _ List.mem_cons_self)) | exact hd _ (List.mem_cons_of_mem _ (List.mem_cons_of_mem _ (List.mem_cons_of_mem _ List.mem_cons_self))) | exact hd _ (List.mem_cons_of_mem _ (List.mem_cons_of_mem _ (List.mem_cons_of_mem _ (List.mem_cons_of_mem _ List.mem_cons_self)))) | exact hd _ (List.mem_cons_of_mem _ (List.mem_cons_of_mem _ (List.mem_cons_of_mem _ (List.mem_cons_of_mem _ (List.mem_cons_of_mem _ List.mem_cons_self))))) | exact hd _ (List.mem_cons_of_mem _ (List.mem_cons_of_mem _ (List.mem_cons_of_mem _ (List.mem_cons_of_mem _ (List.mem_cons_of_mem _ (List.mem_cons_of_mem _ List.mem_cons_self)))))) | exact hd _ (List.mem_cons_of_mem _ (List.mem_cons_of_mem _ (List.mem_cons_of_mem _ (List.mem_cons_of_mem _ (List.mem_cons_of_mem _ (List.mem_cons_of_mem _ (List.mem_cons_of_mem _ List.mem_cons_self)))))))
            have d2 : x 8 = .bool false := by first | exact hd _ List.mem_cons_self | exact hd _ (List.mem_cons_of_mem _ List.mem_cons_self) | exact hd _ (List.mem_cons_of_mem _ (List.mem_cons_of_mem _ List.mem_cons_self)) | exact hd _ (List.mem_cons_of_mem _ (List.mem_cons_of_mem _ (List.mem_cons_of_mem _ List.mem_cons_self))) | exact hd _ (List.mem_cons_of_mem _ (List.mem_cons_of_mem _ (List.mem_cons_of_mem _ (List.mem_cons_of_mem _ List.mem_cons_self)))) | exact hd _ (List.mem_cons_of_mem _ (List.mem_cons_of_mem _ (List.mem_cons_of_mem _ (List.mem_cons_of_mem _ (List.mem_cons_of_mem _ List.mem_cons_self))))) | exact hd _ (List.mem_cons_of_mem _ (List.mem_cons_of_mem _ (List.mem_cons_of_mem _ (List.mem_cons_of_mem _ (List.mem_cons_of_mem _ (List.mem_cons_of_mem _ List.mem_cons_self)))))) | exact hd _ (List.mem_cons_of_mem _ (List.mem_cons_of_mem _ (List.mem_cons_of_mem _ (List.mem_cons_of_mem _ (List.mem_cons_of_mem _ (List.mem_cons_of_mem _ (List.mem_cons_of_mem _ List.mem_cons_self)))))))
            refine ⟨by unfold plA; rw [d2]; rfl, ?_⟩
            unfold plA at hK ⊢
            simp only [d0, d1, d2] at hK ⊢
            go_wp2_with fail
            refine (live_any g M d.sp.seg _ hS.1).mono ?_
            rintro e w2 ⟨rfl, hb2⟩
            exact hK (.int .i64 (liveW d.sp.seg (entUp M 256))) w2 hb2 rfl
          · intro x w' hS hd K hK
            have d0 : x 8 = .bool false := by first | exact hd _ List.mem_cons_self | exact hd _ (List.mem_cons_of_mem _ List.mem_cons_self) | exact hd _ (List.mem_cons_of_mem _ (List.mem_cons_of_mem _ List.mem_cons_self)) | exact hd _ (List.mem_cons_of_mem _ (List.mem_cons_of_mem _ (List.mem_cons_of_mem _ List.mem_cons_self))) | exact hd _ (List.mem_cons_of_mem _ (List.mem_cons_of_mem _ (List.mem_cons_of_mem _ (List.mem_cons_of_mem _ List.mem_cons_self)))) | exact hd _ (List.mem_cons_of_mem _ (List.mem_cons_of_mem _ (List.mem_cons_of_mem _ (List.mem_cons_of_mem _ (List.mem_cons_of_mem _ List.mem_cons_self))))) | exact hd _ (List.mem_cons_of_mem _ (List.mem_cons_of_mem _ (List.mem_cons_of_mem _ (List.mem_cons_of_mem _ (List.mem_cons_of_mem _ (List.mem_cons_of_mem _ List.mem_cons_self)))))) | exact hd _ (List.mem_cons_of_mem _ (List.mem_cons_of_mem _ (List.mem_cons_of_mem _ (List.mem_cons_of_mem _ (List.mem_cons_of_mem _ (List.mem_cons_of_mem _ (List.mem_cons_of_mem _ List.mem_cons_self)))))))
            refine ⟨by unfold plA; rw [d0]; rfl, ?_⟩
            obtain ⟨C, hC, rC⟩ := hS.2.1
            exact wp_loadv 30 (.tmp 4) rfl rfl (load30 rC hC) (hK (.agg C) w' (Below.refl _ _) ⟨C, rfl, rC⟩)
          · intro x w' hS hd K hK
            have d0 : x 8 = .bool false := by first | exact hd _ List.mem_cons_self | exact hd _ (List.mem_cons_of_mem _ List.mem_cons_self) | exact hd _ (List.mem_cons_of_mem _ (List.mem_cons_of_mem _ List.mem_cons_self)) | exact hd _ (List.mem_cons_of_mem _ (List.mem_cons_of_mem _ (List.mem_cons_of_mem _ List.mem_cons_self))) | exact hd _ (List.mem_cons_of_mem _ (List.mem_cons_of_mem _ (List.mem_cons_of_mem _ (List.mem_cons_of_mem _ List.mem_cons_self)))) | exact hd _ (List.mem_cons_of_mem _ (List.mem_cons_of_mem _ (List.mem_cons_of_mem _ (List.mem_cons_of_mem _ (List.mem_cons_of_mem _ List.mem_cons_self))))) | exact hd _ (List.mem_cons_of_mem _ (List.mem_cons_of_mem _ (List.mem_cons_of_mem _ (List.mem_cons_of_mem _ (List.mem_cons_of_mem _ (List.mem_cons_of_mem _ List.mem_cons_self)))))) | exact hd _ (List.mem_cons_of_mem _ (List.mem_cons_of_mem _ (List.mem_cons_of_mem _ (List.mem_cons_of_mem _ (List.mem_cons_of_mem _ (List.mem_cons_of_mem _ (List.mem_cons_of_mem _ List.mem_cons_self)))))))
            refine ⟨by unfold plA; rw [d0]; rfl, ?_⟩
            unfold plA at hK ⊢
            simp only [d0] at hK ⊢
            go_wp2
            exact hK (.pointer (some ⟨b6, 3, none⟩)) w' (Below.refl _ _) rfl
          · intro x w' hS hd K hK
            have d0 : x 15 = .pointer (some ⟨b6, 3, none⟩) := by first | exact hd _ List.mem_cons_self | exact hd _ (List.mem_cons_of_mem _ List.mem_cons_self) | exact hd _ (List.mem_cons_of_mem _ (List.mem_cons_of_mem _ List.mem_cons_self)) | exact hd _ (List.mem_cons_of_mem _ (List.mem_cons_of_mem _ (List.mem_cons_of_mem _ List.mem_cons_self))) | exact hd _ (List.mem_cons_of_mem _ (List.mem_cons_of_mem _ (List.mem_cons_of_mem _ (List.mem_cons_of_mem _ List.mem_cons_self)))) | exact hd _ (List.mem_cons_of_mem _ (List.mem_cons_of_mem _ (List.mem_cons_of_mem _ (List.mem_cons_of_mem _ (List.mem_cons_of_mem _ List.mem_cons_self))))) | exact hd _ (List.mem_cons_of_mem _ (List.mem_cons_of_mem _ (List.mem_cons_of_mem _ (List.mem_cons_of_mem _ (List.mem_cons_of_mem _ (List.mem_cons_of_mem _ List.mem_cons_self)))))) | exact hd _ (List.mem_cons_of_mem _ (List.mem_cons_of_mem _ (List.mem_cons_of_mem _ (List.mem_cons_of_mem _ (List.mem_cons_of_mem _ (List.mem_cons_of_mem _ (List.mem_cons_of_mem _ List.mem_cons_self)))))))
            have d1 : x 8 = .bool false := by first | exact hd _ List.mem_cons_self | exact hd _ (List.mem_cons_of_mem _ List.mem_cons_self) | exact hd _ (List.mem_cons_of_mem _ (List.mem_cons_of_mem _ List.mem_cons_self)) | exact hd _ (List.mem_cons_of_mem _ (List.mem_cons_of_mem _ (List.mem_cons_of_mem _ List.mem_cons_self))) | exact hd _ (List.mem_cons_of_mem _ (List.mem_cons_of_mem _ (List.mem_cons_of_mem _ (List.mem_cons_of_mem _ List.mem_cons_self)))) | exact hd _ (List.mem_cons_of_mem _ (List.mem_cons_of_mem _ (List.mem_cons_of_mem _ (List.mem_cons_of_mem _ (List.mem_cons_of_mem _ List.mem_cons_self))))) | exact hd _ (List.mem_cons_of_mem _ (List.mem_cons_of_mem _ (List.mem_cons_of_mem _ (List.mem_cons_of_mem _ (List.mem_cons_of_mem _ (List.mem_cons_of_mem _ List.mem_cons_self)))))) | exact hd _ (List.mem_cons_of_mem _ (List.mem_cons_of_mem _ (List.mem_cons_of_mem _ (List.mem_cons_of_mem _ (List.mem_cons_of_mem _ (List.mem_cons_of_mem _ (List.mem_cons_of_mem _ List.mem_cons_self)))))))
            refine ⟨by unfold plA; rw [d1]; rfl, ?_⟩
            unfold plA at hK ⊢
            simp only [d0, d1] at hK ⊢
            go_wp2
            exact hK (.pointer (some ⟨b6, 3, none⟩)) w' (Below.refl _ _) rfl
          · intro x w' hS hd K hK
            have d0 : x 16 = .pointer (some ⟨b6, 3, none⟩) := by first | exact hd _ List.mem_cons_self | exact hd _ (List.mem_cons_of_mem _ List.mem_cons_self) | exact hd _ (List.mem_cons_of_mem _ (List.mem_cons_of_mem _ List.mem_cons_self)) | exact hd _ (List.mem_cons_of_mem _ (List.mem_cons_of_mem _ (List.mem_cons_of_mem _ List.mem_cons_self))) | exact hd _ (List.mem_cons_of_mem _ (List.mem_cons_of_mem _ (List.mem_cons_of_mem _ (List.mem_cons_of_mem _ List.mem_cons_self)))) | exact hd _ (List.mem_cons_of_mem _ (List.mem_cons_of_mem _ (List.mem_cons_of_mem _ (List.mem_cons_of_mem _ (List.mem_cons_of_mem _ List.mem_cons_self))))) | exact hd _ (List.mem_cons_of_mem _ (List.mem_cons_of_mem _ (List.mem_cons_of_mem _ (List.mem_cons_of_mem _ (List.mem_cons_of_mem _ (List.mem_cons_of_mem _ List.mem_cons_self)))))) | exact hd _ (List.mem_cons_of_mem _ (List.mem_cons_of_mem _ (List.mem_cons_of_mem _ (List.mem_cons_of_mem _ (List.mem_cons_of_mem _ (List.mem_cons_of_mem _ (List.mem_cons_of_mem _ List.mem_cons_self)))))))
            have d1 : x 8 = .bool false := by first | exact hd _ List.mem_cons_self | exact hd _ (List.mem_cons_of_mem _ List.mem_cons_self) | exact hd _ (List.mem_cons_of_mem _ (List.mem_cons_of_mem _ List.mem_cons_self)) | exact hd _ (List.mem_cons_of_mem _ (List.mem_cons_of_mem _ (List.mem_cons_of_mem _ List.mem_cons_self))) | exact hd _ (List.mem_cons_of_mem _ (List.mem_cons_of_mem _ (List.mem_cons_of_mem _ (List.mem_cons_of_mem _ List.mem_cons_self)))) | exact hd _ (List.mem_cons_of_mem _ (List.mem_cons_of_mem _ (List.mem_cons_of_mem _ (List.mem_cons_of_mem _ (List.mem_cons_of_mem _ List.mem_cons_self))))) | exact hd _ (List.mem_cons_of_mem _ (List.mem_cons_of_mem _ (List.mem_cons_of_mem _ (List.mem_cons_of_mem _ (List.mem_cons_of_mem _ (List.mem_cons_of_mem _ List.mem_cons_self)))))) | exact hd _ (List.mem_cons_of_mem _ (List.mem_cons_of_mem _ (List.mem_cons_of_mem _ (List.mem_cons_of_mem _ (List.mem_cons_of_mem _ (List.mem_cons_of_mem _ (List.mem_cons_of_mem _ List.mem_cons_self)))))))
            refine ⟨by unfold plA; rw [d1]; rfl, ?_⟩
            unfold plA at hK ⊢
            simp only [d0, d1] at hK ⊢
            have z3 := obj_cell hS.2.2.1 3
            simp only [dC, List.getElem?_toArray, List.getElem?_cons_zero, List.getElem?_cons_succ] at z3
            go_wp2
            exact hK (.int .i64 d.sp.seg) w' (Below.refl _ _) rfl
          · intro x w' hS hd K hK
            have d0 : x 17 = .int .i64 d.sp.seg := by first | exact hd _ List.mem_cons_self | exact hd _ (List.mem_cons_of_mem _ List.mem_cons_self) | exact hd _ (List.mem_cons_of_mem _ (List.mem_cons_of_mem _ List.mem_cons_self)) | exact hd _ (List.mem_cons_of_mem _ (List.mem_cons_of_mem _ (List.mem_cons_of_mem _ List.mem_cons_self))) | exact hd _ (List.mem_cons_of_mem _ (List.mem_cons_of_mem _ (List.mem_cons_of_mem _ (List.mem_cons_of_mem _ List.mem_cons_self)))) | exact hd _ (List.mem_cons_of_mem _ (List.mem_cons_of_mem _ (List.mem_cons_of_mem _ (List.mem_cons_of_mem _ (List.mem_cons_of_mem _ List.mem_cons_self))))) | exact hd _ (List.mem_cons_of_mem _ (List.mem_cons_of_mem _ (List.mem_cons_of_mem _ (List.mem_cons_of_mem _ (List.mem_cons_of_mem _ (List.mem_cons_of_mem _ List.mem_cons_self)))))) | exact hd _ (List.mem_cons_of_mem _ (List.mem_cons_of_mem _ (List.mem_cons_of_mem _ (List.mem_cons_of_mem _ (List.mem_cons_of_mem _ (List.mem_cons_of_mem _ (List.mem_cons_of_mem _ List.mem_cons_self)))))))
            have d1 : x 8 = .bool false := by first | exact hd _ List.mem_cons_self | exact hd _ (List.mem_cons_of_mem _ List.mem_cons_self) | exact hd _ (List.mem_cons_of_mem _ (List.mem_cons_of_mem _ List.mem_cons_self)) | exact hd _ (List.mem_cons_of_mem _ (List.mem_cons_of_mem _ (List.mem_cons_of_mem _ List.mem_cons_self))) | exact hd _ (List.mem_cons_of_mem _ (List.mem_cons_of_mem _ (List.mem_cons_of_mem _ (List.mem_cons_of_mem _ List.mem_cons_self)))) | exact hd _ (List.mem_cons_of_mem _ (List.mem_cons_of_mem _ (List.mem_cons_of_mem _ (List.mem_cons_of_mem _ (List.mem_cons_of_mem _ List.mem_cons_self))))) | exact hd _ (List.mem_cons_of_mem _ (List.mem_cons_of_mem _ (List.mem_cons_of_mem _ (List.mem_cons_of_mem _ (List.mem_cons_of_mem _ (List.mem_cons_of_mem _ List.mem_cons_self)))))) | exact hd _ (List.mem_cons_of_mem _ (List.mem_cons_of_mem _ (List.mem_cons_of_mem _ (List.mem_cons_of_mem _ (List.mem_cons_of_mem _ (List.mem_cons_of_mem _ (List.mem_cons_of_mem _ List.mem_cons_self)))))))
            obtain ⟨C, e14, r14⟩ : ∃ C, x 14 = .agg C ∧ Rep C M := by first | exact hd _ List.mem_cons_self | exact hd _ (List.mem_cons_of_mem _ List.mem_cons_self) | exact hd _ (List.mem_cons_of_mem _ (List.mem_cons_of_mem _ List.mem_cons_self)) | exact hd _ (List.mem_cons_of_mem _ (List.mem_cons_of_mem _ (List.mem_cons_of_mem _ List.mem_cons_self))) | exact hd _ (List.mem_cons_of_mem _ (List.mem_cons_of_mem _ (List.mem_cons_of_mem _ (List.mem_cons_of_mem _ List.mem_cons_self)))) | exact hd _ (List.mem_cons_of_mem _ (List.mem_cons_of_mem _ (List.mem_cons_of_mem _ (List.mem_cons_of_mem _ (List.mem_cons_of_mem _ List.mem_cons_self))))) | exact hd _ (List.mem_cons_of_mem _ (List.mem_cons_of_mem _ (List.mem_cons_of_mem _ (List.mem_cons_of_mem _ (List.mem_cons_of_mem _ (List.mem_cons_of_mem _ List.mem_cons_self)))))) | exact hd _ (List.mem_cons_of_mem _ (List.mem_cons_of_mem _ (List.mem_cons_of_mem _ (List.mem_cons_of_mem _ (List.mem_cons_of_mem _ (List.mem_cons_of_mem _ (List.mem_cons_of_mem _ List.mem_cons_self)))))))
            refine ⟨by unfold plA; rw [d1]; rfl, ?_⟩
            unfold plA at hK ⊢
            simp only [d0, d1] at hK ⊢
            simp only [e14] at hK ⊢
            go_wp2_with fail
            refine (rlive_any C M r14 H00.out d.sp.seg _).mono ?_
            rintro e w2 ⟨rfl, hb2⟩
            exact hK (.int .i64 (liveW d.sp.seg (entUp M 256))) w2 hb2 rfl
          · intro x w' hS hd K hK
            have d0 : x 13 = .int .i64 (liveW d.sp.seg (entUp M 256)) := by first | exact hd _ List.mem_cons_self | exact hd _ (List.mem_cons_of_mem _ List.mem_cons_self) | exact hd _ (List.mem_cons_of_mem _ (List.mem_cons_of_mem _ List.mem_cons_self)) | exact hd _ (List.mem_cons_of_mem _ (List.mem_cons_of_mem _ (List.mem_cons_of_mem _ List.mem_cons_self))) | exact hd _ (List.mem_cons_of_mem _ (List.mem_cons_of_mem _ (List.mem_cons_of_mem _ (List.mem_cons_of_mem _ List.mem_cons_self)))) | exact hd _ (List.mem_cons_of_mem _ (List.mem_cons_of_mem _ (List.mem_cons_of_mem _ (List.mem_cons_of_mem _ (List.mem_cons_of_mem _ List.mem_cons_self))))) | exact hd _ (List.mem_cons_of_mem _ (List.mem_cons_of_mem _ (List.mem_cons_of_mem _ (List.mem_cons_of_mem _ (List.mem_cons_of_mem _ (List.mem_cons_of_mem _ List.mem_cons_self)))))) | exact hd _ (List.mem_cons_of_mem _ (List.mem_cons_of_mem _ (List.mem_cons_of_mem _ (List.mem_cons_of_mem _ (List.mem_cons_of_mem _ (List.mem_cons_of_mem _ (List.mem_cons_of_mem _ List.mem_cons_self)))))))
            have d1 : x 18 = .int .i64 (liveW d.sp.seg (entUp M 256)) := by first | exact hd _ List.mem_cons_self | exact hd _ (List.mem_cons_of_mem _ List.mem_cons_self) | exact hd _ (List.mem_cons_of_mem _ (List.mem_cons_of_mem _ List.mem_cons_self)) | exact hd _ (List.mem_cons_of_mem _ (List.mem_cons_of_mem _ (List.mem_cons_of_mem _ List.mem_cons_self))) | exact hd _ (List.mem_cons_of_mem _ (List.mem_cons_of_mem _ (List.mem_cons_of_mem _ (List.mem_cons_of_mem _ List.mem_cons_self)))) | exact hd _ (List.mem_cons_of_mem _ (List.mem_cons_of_mem _ (List.mem_cons_of_mem _ (List.mem_cons_of_mem _ (List.mem_cons_of_mem _ List.mem_cons_self))))) | exact hd _ (List.mem_cons_of_mem _ (List.mem_cons_of_mem _ (List.mem_cons_of_mem _ (List.mem_cons_of_mem _ (List.mem_cons_of_mem _ (List.mem_cons_of_mem _ List.mem_cons_self)))))) | exact hd _ (List.mem_cons_of_mem _ (List.mem_cons_of_mem _ (List.mem_cons_of_mem _ (List.mem_cons_of_mem _ (List.mem_cons_of_mem _ (List.mem_cons_of_mem _ (List.mem_cons_of_mem _ List.mem_cons_self)))))))
            have d2 : x 8 = .bool false := by first | exact hd _ List.mem_cons_self | exact hd _ (List.mem_cons_of_mem _ List.mem_cons_self) | exact hd _ (List.mem_cons_of_mem _ (List.mem_cons_of_mem _ List.mem_cons_self)) | exact hd _ (List.mem_cons_of_mem _ (List.mem_cons_of_mem _ (List.mem_cons_of_mem _ List.mem_cons_self))) | exact hd _ (List.mem_cons_of_mem _ (List.mem_cons_of_mem _ (List.mem_cons_of_mem _ (List.mem_cons_of_mem _ List.mem_cons_self)))) | exact hd _ (List.mem_cons_of_mem _ (List.mem_cons_of_mem _ (List.mem_cons_of_mem _ (List.mem_cons_of_mem _ (List.mem_cons_of_mem _ List.mem_cons_self))))) | exact hd _ (List.mem_cons_of_mem _ (List.mem_cons_of_mem _ (List.mem_cons_of_mem _ (List.mem_cons_of_mem _ (List.mem_cons_of_mem _ (List.mem_cons_of_mem _ List.mem_cons_self)))))) | exact hd _ (List.mem_cons_of_mem _ (List.mem_cons_of_mem _ (List.mem_cons_of_mem _ (List.mem_cons_of_mem _ (List.mem_cons_of_mem _ (List.mem_cons_of_mem _ (List.mem_cons_of_mem _ List.mem_cons_self)))))))
            refine ⟨by unfold plA; rw [d2]; rfl, ?_⟩
            unfold plA at hK ⊢
            simp only [d0, d1, d2] at hK ⊢
            go_wp2
            exact hK (.bool false) w' (Below.refl _ _) rfl
          · intro x w' hS hd K hK
            have d0 : x 8 = .bool false := by first | exact hd _ List.mem_cons_self | exact hd _ (List.mem_cons_of_mem _ List.mem_cons_self) | exact hd _ (List.mem_cons_of_mem _ (List.mem_cons_of_mem _ List.mem_cons_self)) | exact hd _ (List.mem_cons_of_mem _ (List.mem_cons_of_mem _ (List.mem_cons_of_mem _ List.mem_cons_self))) | exact hd _ (List.mem_cons_of_mem _ (List.mem_cons_of_mem _ (List.mem_cons_of_mem _ (List.mem_cons_of_mem _ List.mem_cons_self)))) | exact hd _ (List.mem_cons_of_mem _ (List.mem_cons_of_mem _ (List.mem_cons_of_mem _ (List.mem_cons_of_mem _ (List.mem_cons_of_mem _ List.mem_cons_self))))) | exact hd _ (List.mem_cons_of_mem _ (List.mem_cons_of_mem _ (List.mem_cons_of_mem _ (List.mem_cons_of_mem _ (List.mem_cons_of_mem _ (List.mem_cons_of_mem _ List.mem_cons_self)))))) | exact hd _ (List.mem_cons_of_mem _ (List.mem_cons_of_mem _ (List.mem_cons_of_mem _ (List.mem_cons_of_mem _ (List.mem_cons_of_mem _ (List.mem_cons_of_mem _ (List.mem_cons_of_mem _ List.mem_cons_self)))))))
            have d1 : x 19 = .bool false := by first | exact hd _ List.mem_cons_self | exact hd _ (List.mem_cons_of_mem _ List.mem_cons_self) | exact hd _ (List.mem_cons_of_mem _ (List.mem_cons_of_mem _ List.mem_cons_self)) | exact hd _ (List.mem_cons_of_mem _ (List.mem_cons_of_mem _ (List.mem_cons_of_mem _ List.mem_cons_self))) | exact hd _ (List.mem_cons_of_mem _ (List.mem_cons_of_mem _ (List.mem_cons_of_mem _ (List.mem_cons_of_mem _ List.mem_cons_self)))) | exact hd _ (List.mem_cons_of_mem _ (List.mem_cons_of_mem _ (List.mem_cons_of_mem _ (List.mem_cons_of_mem _ (List.mem_cons_of_mem _ List.mem_cons_self))))) | exact hd _ (List.mem_cons_of_mem _ (List.mem_cons_of_mem _ (List.mem_cons_of_mem _ (List.mem_cons_of_mem _ (List.mem_cons_of_mem _ (List.mem_cons_of_mem _ List.mem_cons_self)))))) | exact hd _ (List.mem_cons_of_mem _ (List.mem_cons_of_mem _ (List.mem_cons_of_mem _ (List.mem_cons_of_mem _ (List.mem_cons_of_mem _ (List.mem_cons_of_mem _ (List.mem_cons_of_mem _ List.mem_cons_self)))))))
            refine ⟨rfl, ?_⟩
            unfold plA at hK ⊢
            simp only [d0, d1] at hK ⊢
            go_wp2
            exact hK (.bool false) w' (Below.refl _ _) rfl
          · intro x w' hS hd K hK
            have d0 : x 20 = .bool false := by first | exact hd _ List.mem_cons_self | exact hd _ (List.mem_cons_of_mem _ List.mem_cons_self) | exact hd _ (List.mem_cons_of_mem _ (List.mem_cons_of_mem _ List.mem_cons_self)) | exact hd _ (List.mem_cons_of_mem _ (List.mem_cons_of_mem _ (List.mem_cons_of_mem _ List.mem_cons_self))) | exact hd _ (List.mem_cons_of_mem _ (List.mem_cons_of_mem _ (List.mem_cons_of_mem _ (List.mem_cons_of_mem _ List.mem_cons_self)))) | exact hd _ (List.mem_cons_of_mem _ (List.mem_cons_of_mem _ (List.mem_cons_of_mem _ (List.mem_cons_of_mem _ (List.mem_cons_of_mem _ List.mem_cons_self))))) | exact hd _ (List.mem_cons_of_mem _ (List.mem_cons_of_mem _ (List.mem_cons_of_mem _ (List.mem_cons_of_mem _ (List.mem_cons_of_mem _ (List.mem_cons_of_mem _ List.mem_cons_self)))))) | exact hd _ (List.mem_cons_of_mem _ (List.mem_cons_of_mem _ (List.mem_cons_of_mem _ (List.mem_cons_of_mem _ (List.mem_cons_of_mem _ (List.mem_cons_of_mem _ (List.mem_cons_of_mem _ List.mem_cons_self)))))))
            refine ⟨rfl, ?_⟩
            unfold plA at hK ⊢
            simp only [d0] at hK ⊢
            go_wp2
            exact hK (.bool false) w' (Below.refl _ _) rfl
          · intro x w' hS hd K hK
            have d0 : x 21 = .bool false := by first | exact hd _ List.mem_cons_self | exact hd _ (List.mem_cons_of_mem _ List.mem_cons_self) | exact hd _ (List.mem_cons_of_mem _ (List.mem_cons_of_mem _ List.mem_cons_self)) | exact hd _ (List.mem_cons_of_mem _ (List.mem_cons_of_mem _ (List.mem_cons_of_mem _ List.mem_cons_self))) | exact hd _ (List.mem_cons_of_mem _ (List.mem_cons_of_mem _ (List.mem_cons_of_mem _ (List.mem_cons_of_mem _ List.mem_cons_self)))) | exact hd _ (List.mem_cons_of_mem _ (List.mem_cons_of_mem _ (List.mem_cons_of_mem _ (List.mem_cons_of_mem _ (List.mem_cons_of_mem _ List.mem_cons_self))))) | exact hd _ (List.mem_cons_of_mem _ (List.mem_cons_of_mem _ (List.mem_cons_of_mem _ (List.mem_cons_of_mem _ (List.mem_cons_of_mem _ (List.mem_cons_of_mem _ List.mem_cons_self)))))) | exact hd _ (List.mem_cons_of_mem _ (List.mem_cons_of_mem _ (List.mem_cons_of_mem _ (List.mem_cons_of_mem _ (List.mem_cons_of_mem _ (List.mem_cons_of_mem _ (List.mem_cons_of_mem _ List.mem_cons_self)))))))
            refine ⟨by unfold plA; rw [d0]; rfl, ?_⟩
            unfold plA at hK ⊢
            simp only [d0] at hK ⊢
            go_wp2
            exact hK (.pointer (some ⟨g, 0, none⟩)) w' (Below.refl _ _) rfl
          · intro x w' hS hd K hK
            have d0 : x 22 = .pointer (some ⟨g, 0, none⟩) := by first | exact hd _ List.mem_cons_self | exact hd _ (List.mem_cons_of_mem _ List.mem_cons_self) | exact hd _ (List.mem_cons_of_mem _ (List.mem_cons_of_mem _ List.mem_cons_self)) | exact hd _ (List.mem_cons_of_mem _ (List.mem_cons_of_mem _ (List.mem_cons_of_mem _ List.mem_cons_self))) | exact hd _ (List.mem_cons_of_mem _ (List.mem_cons_of_mem _ (List.mem_cons_of_mem _ (List.mem_cons_of_mem _ List.mem_cons_self)))) | exact hd _ (List.mem_cons_of_mem _ (List.mem_cons_of_mem _ (List.mem_cons_of_mem _ (List.mem_cons_of_mem _ (List.mem_cons_of_mem _ List.mem_cons_self))))) | exact hd _ (List.mem_cons_of_mem _ (List.mem_cons_of_mem _ (List.mem_cons_of_mem _ (List.mem_cons_of_mem _ (List.mem_cons_of_mem _ (List.mem_cons_of_mem _ List.mem_cons_self)))))) | exact hd _ (List.mem_cons_of_mem _ (List.mem_cons_of_mem _ (List.mem_cons_of_mem _ (List.mem_cons_of_mem _ (List.mem_cons_of_mem _ (List.mem_cons_of_mem _ (List.mem_cons_of_mem _ List.mem_cons_self)))))))
            have d1 : x 21 = .bool false := by first | exact hd _ List.mem_cons_self | exact hd _ (List.mem_cons_of_mem _ List.mem_cons_self) | exact hd _ (List.mem_cons_of_mem _ (List.mem_cons_of_mem _ List.mem_cons_self)) | exact hd _ (List.mem_cons_of_mem _ (List.mem_cons_of_mem _ (List.mem_cons_of_mem _ List.mem_cons_self))) | exact hd _ (List.mem_cons_of_mem _ (List.mem_cons_of_mem _ (List.mem_cons_of_mem _ (List.mem_cons_of_mem _ List.mem_cons_self)))) | exact hd _ (List.mem_cons_of_mem _ (List.mem_cons_of_mem _ (List.mem_cons_of_mem _ (List.mem_cons_of_mem _ (List.mem_cons_of_mem _ List.mem_cons_self))))) | exact hd _ (List.mem_cons_of_mem _ (List.mem_cons_of_mem _ (List.mem_cons_of_mem _ (List.mem_cons_of_mem _ (List.mem_cons_of_mem _ (List.mem_cons_of_mem _ List.mem_cons_self)))))) | exact hd _ (List.mem_cons_of_mem _ (List.mem_cons_of_mem _ (List.mem_cons_of_mem _ (List.mem_cons_of_mem _ (List.mem_cons_of_mem _ (List.mem_cons_of_mem _ (List.mem_cons_of_mem _ List.mem_cons_self)))))))
            refine ⟨by unfold plA; rw [d1]; rfl, ?_⟩
            unfold plA at hK ⊢
            simp only [d0, d1] at hK ⊢
            go_wp2_with fail
            refine (free_any g M _ hS.1).mono ?_
            rintro e w2 ⟨⟨r, hr, rfl⟩, rfl⟩
            exact hK (.int .i64 (r : Int)) _ (Below.refl _ _) ⟨r, rfl, hr⟩
          · intro x w' hS hd K hK
            have d0 : x 21 = .bool false := by first | exact hd _ List.mem_cons_self | exact hd _ (List.mem_cons_of_mem _ List.mem_cons_self) | exact hd _ (List.mem_cons_of_mem _ (List.mem_cons_of_mem _ List.mem_cons_self)) | exact hd _ (List.mem_cons_of_mem _ (List.mem_cons_of_mem _ (List.mem_cons_of_mem _ List.mem_cons_self))) | exact hd _ (List.mem_cons_of_mem _ (List.mem_cons_of_mem _ (List.mem_cons_of_mem _ (List.mem_cons_of_mem _ List.mem_cons_self)))) | exact hd _ (List.mem_cons_of_mem _ (List.mem_cons_of_mem _ (List.mem_cons_of_mem _ (List.mem_cons_of_mem _ (List.mem_cons_of_mem _ List.mem_cons_self))))) | exact hd _ (List.mem_cons_of_mem _ (List.mem_cons_of_mem _ (List.mem_cons_of_mem _ (List.mem_cons_of_mem _ (List.mem_cons_of_mem _ (List.mem_cons_of_mem _ List.mem_cons_self)))))) | exact hd _ (List.mem_cons_of_mem _ (List.mem_cons_of_mem _ (List.mem_cons_of_mem _ (List.mem_cons_of_mem _ (List.mem_cons_of_mem _ (List.mem_cons_of_mem _ (List.mem_cons_of_mem _ List.mem_cons_self)))))))
            refine ⟨by unfold plA; rw [d0]; rfl, ?_⟩
            obtain ⟨C, hC, rC⟩ := hS.2.1
            exact wp_loadv 30 (.tmp 4) rfl rfl (load30 rC hC) (hK (.agg C) w' (Below.refl _ _) ⟨C, rfl, rC⟩)
          · intro x w' hS hd K hK
            have d0 : x 21 = .bool false := by first | exact hd _ List.mem_cons_self | exact hd _ (List.mem_cons_of_mem _ List.mem_cons_self) | exact hd _ (List.mem_cons_of_mem _ (List.mem_cons_of_mem _ List.mem_cons_self)) | exact hd _ (List.mem_cons_of_mem _ (List.mem_cons_of_mem _ (List.mem_cons_of_mem _ List.mem_cons_self))) | exact hd _ (List.mem_cons_of_mem _ (List.mem_cons_of_mem _ (List.mem_cons_of_mem _ (List.mem_cons_of_mem _ List.mem_cons_self)))) | exact hd _ (List.mem_cons_of_mem _ (List.mem_cons_of_mem _ (List.mem_cons_of_mem _ (List.mem_cons_of_mem _ (List.mem_cons_of_mem _ List.mem_cons_self))))) | exact hd _ (List.mem_cons_of_mem _ (List.mem_cons_of_mem _ (List.mem_cons_of_mem _ (List.mem_cons_of_mem _ (List.mem_cons_of_mem _ (List.mem_cons_of_mem _ List.mem_cons_self)))))) | exact hd _ (List.mem_cons_of_mem _ (List.mem_cons_of_mem _ (List.mem_cons_of_mem _ (List.mem_cons_of_mem _ (List.mem_cons_of_mem _ (List.mem_cons_of_mem _ (List.mem_cons_of_mem _ List.mem_cons_self)))))))
            obtain ⟨C, e24, r24⟩ : ∃ C, x 24 = .agg C ∧ Rep C M := by first | exact hd _ List.mem_cons_self | exact hd _ (List.mem_cons_of_mem _ List.mem_cons_self) | exact hd _ (List.mem_cons_of_mem _ (List.mem_cons_of_mem _ List.mem_cons_self)) | exact hd _ (List.mem_cons_of_mem _ (List.mem_cons_of_mem _ (List.mem_cons_of_mem _ List.mem_cons_self))) | exact hd _ (List.mem_cons_of_mem _ (List.mem_cons_of_mem _ (List.mem_cons_of_mem _ (List.mem_cons_of_mem _ List.mem_cons_self)))) | exact hd _ (List.mem_cons_of_mem _ (List.mem_cons_of_mem _ (List.mem_cons_of_mem _ (List.mem_cons_of_mem _ (List.mem_cons_of_mem _ List.mem_cons_self))))) | exact hd _ (List.mem_cons_of_mem _ (List.mem_cons_of_mem _ (List.mem_cons_of_mem _ (List.mem_cons_of_mem _ (List.mem_cons_of_mem _ (List.mem_cons_of_mem _ List.mem_cons_self)))))) | exact hd _ (List.mem_cons_of_mem _ (List.mem_cons_of_mem _ (List.mem_cons_of_mem _ (List.mem_cons_of_mem _ (List.mem_cons_of_mem _ (List.mem_cons_of_mem _ (List.mem_cons_of_mem _ List.mem_cons_self)))))))
            refine ⟨by unfold plA; rw [d0]; rfl, ?_⟩
            unfold plA at hK ⊢
            simp only [d0] at hK ⊢
            simp only [e24] at hK ⊢
            go_wp2_with fail
            refine (rfree_any C M r24 _).mono ?_
            rintro e w2 ⟨⟨r, hr, rfl⟩, hb2⟩
            exact hK (.int .i64 (r : Int)) w2 hb2 ⟨r, rfl, hr⟩
          · intro x w' hS hd K hK
            have d0 : x 21 = .bool false := by first | exact hd _ List.mem_cons_self | exact hd _ (List.mem_cons_of_mem _ List.mem_cons_self) | exact hd _ (List.mem_cons_of_mem _ (List.mem_cons_of_mem _ List.mem_cons_self)) | exact hd _ (List.mem_cons_of_mem _ (List.mem_cons_of_mem _ (List.mem_cons_of_mem _ List.mem_cons_self))) | exact hd _ (List.mem_cons_of_mem _ (List.mem_cons_of_mem _ (List.mem_cons_of_mem _ (List.mem_cons_of_mem _ List.mem_cons_self)))) | exact hd _ (List.mem_cons_of_mem _ (List.mem_cons_of_mem _ (List.mem_cons_of_mem _ (List.mem_cons_of_mem _ (List.mem_cons_of_mem _ List.mem_cons_self))))) | exact hd _ (List.mem_cons_of_mem _ (List.mem_cons_of_mem _ (List.mem_cons_of_mem _ (List.mem_cons_of_mem _ (List.mem_cons_of_mem _ (List.mem_cons_of_mem _ List.mem_cons_self)))))) | exact hd _ (List.mem_cons_of_mem _ (List.mem_cons_of_mem _ (List.mem_cons_of_mem _ (List.mem_cons_of_mem _ (List.mem_cons_of_mem _ (List.mem_cons_of_mem _ (List.mem_cons_of_mem _ List.mem_cons_self)))))))
            obtain ⟨ra, e23, r23⟩ : ∃ r : Nat, x 23 = .int .i64 (r : Int) ∧ FreeN M r := by first | exact hd _ List.mem_cons_self | exact hd _ (List.mem_cons_of_mem _ List.mem_cons_self) | exact hd _ (List.mem_cons_of_mem _ (List.mem_cons_of_mem _ List.mem_cons_self)) | exact hd _ (List.mem_cons_of_mem _ (List.mem_cons_of_mem _ (List.mem_cons_of_mem _ List.mem_cons_self))) | exact hd _ (List.mem_cons_of_mem _ (List.mem_cons_of_mem _ (List.mem_cons_of_mem _ (List.mem_cons_of_mem _ List.mem_cons_self)))) | exact hd _ (List.mem_cons_of_mem _ (List.mem_cons_of_mem _ (List.mem_cons_of_mem _ (List.mem_cons_of_mem _ (List.mem_cons_of_mem _ List.mem_cons_self))))) | exact hd _ (List.mem_cons_of_mem _ (List.mem_cons_of_mem _ (List.mem_cons_of_mem _ (List.mem_cons_of_mem _ (List.mem_cons_of_mem _ (List.mem_cons_of_mem _ List.mem_cons_self)))))) | exact hd _ (List.mem_cons_of_mem _ (List.mem_cons_of_mem _ (List.mem_cons_of_mem _ (List.mem_cons_of_mem _ (List.mem_cons_of_mem _ (List.mem_cons_of_mem _ (List.mem_cons_of_mem _ List.mem_cons_self)))))))
            obtain ⟨rb2, e25, r25⟩ : ∃ r : Nat, x 25 = .int .i64 (r : Int) ∧ FreeN M r := by first | exact hd _ List.mem_cons_self | exact hd _ (List.mem_cons_of_mem _ List.mem_cons_self) | exact hd _ (List.mem_cons_of_mem _ (List.mem_cons_of_mem _ List.mem_cons_self)) | exact hd _ (List.mem_cons_of_mem _ (List.mem_cons_of_mem _ (List.mem_cons_of_mem _ List.mem_cons_self))) | exact hd _ (List.mem_cons_of_mem _ (List.mem_cons_of_mem _ (List.mem_cons_of_mem _ (List.mem_cons_of_mem _ List.mem_cons_self)))) | exact hd _ (List.mem_cons_of_mem _ (List.mem_cons_of_mem _ (List.mem_cons_of_mem _ (List.mem_cons_of_mem _ (List.mem_cons_of_mem _ List.mem_cons_self))))) | exact hd _ (List.mem_cons_of_mem _ (List.mem_cons_of_mem _ (List.mem_cons_of_mem _ (List.mem_cons_of_mem _ (List.mem_cons_of_mem _ (List.mem_cons_of_mem _ List.mem_cons_self)))))) | exact hd _ (List.mem_cons_of_mem _ (List.mem_cons_of_mem _ (List.mem_cons_of_mem _ (List.mem_cons_of_mem _ (List.mem_cons_of_mem _ (List.mem_cons_of_mem _ (List.mem_cons_of_mem _ List.mem_cons_self)))))))
            obtain rfl := FreeN.uniq r23 r25
            refine ⟨by unfold plA; rw [d0]; rfl, ?_⟩
            unfold plA at hK ⊢
            simp only [d0] at hK ⊢
            simp only [e23, e25] at hK ⊢
            go_wp2
            exact hK (.bool false) w' (Below.refl _ _) rfl
          · intro x w' hS hd K hK
            have d0 : x 21 = .bool false := by first | exact hd _ List.mem_cons_self | exact hd _ (List.mem_cons_of_mem _ List.mem_cons_self) | exact hd _ (List.mem_cons_of_mem _ (List.mem_cons_of_mem _ List.mem_cons_self)) | exact hd _ (List.mem_cons_of_mem _ (List.mem_cons_of_mem _ (List.mem_cons_of_mem _ List.mem_cons_self))) | exact hd _ (List.mem_cons_of_mem _ (List.mem_cons_of_mem _ (List.mem_cons_of_mem _ (List.mem_cons_of_mem _ List.mem_cons_self)))) | exact hd _ (List.mem_cons_of_mem _ (List.mem_cons_of_mem _ (List.mem_cons_of_mem _ (List.mem_cons_of_mem _ (List.mem_cons_of_mem _ List.mem_cons_self))))) | exact hd _ (List.mem_cons_of_mem _ (List.mem_cons_of_mem _ (List.mem_cons_of_mem _ (List.mem_cons_of_mem _ (List.mem_cons_of_mem _ (List.mem_cons_of_mem _ List.mem_cons_self)))))) | exact hd _ (List.mem_cons_of_mem _ (List.mem_cons_of_mem _ (List.mem_cons_of_mem _ (List.mem_cons_of_mem _ (List.mem_cons_of_mem _ (List.mem_cons_of_mem _ (List.mem_cons_of_mem _ List.mem_cons_self)))))))
            have d1 : x 26 = .bool false := by first | exact hd _ List.mem_cons_self | exact hd _ (List.mem_cons_of_mem _ List.mem_cons_self) | exact hd _ (List.mem_cons_of_mem _ (List.mem_cons_of_mem _ List.mem_cons_self)) | exact hd _ (List.mem_cons_of_mem _ (List.mem_cons_of_mem _ (List.mem_cons_of_mem _ List.mem_cons_self))) | exact hd _ (List.mem_cons_of_mem _ (List.mem_cons_of_mem _ (List.mem_cons_of_mem _ (List.mem_cons_of_mem _ List.mem_cons_self)))) | exact hd _ (List.mem_cons_of_mem _ (List.mem_cons_of_mem _ (List.mem_cons_of_mem _ (List.mem_cons_of_mem _ (List.mem_cons_of_mem _ List.mem_cons_self))))) | exact hd _ (List.mem_cons_of_mem _ (List.mem_cons_of_mem _ (List.mem_cons_of_mem _ (List.mem_cons_of_mem _ (List.mem_cons_of_mem _ (List.mem_cons_of_mem _ List.mem_cons_self)))))) | exact hd _ (List.mem_cons_of_mem _ (List.mem_cons_of_mem _ (List.mem_cons_of_mem _ (List.mem_cons_of_mem _ (List.mem_cons_of_mem _ (List.mem_cons_of_mem _ (List.mem_cons_of_mem _ List.mem_cons_self)))))))
            refine ⟨rfl, ?_⟩
            unfold plA at hK ⊢
            simp only [d0, d1] at hK ⊢
            go_wp2
            exact hK (.bool false) w' (Below.refl _ _) rfl
        · intro u hu x w' hS hv
          have v27 : x 27 = .bool false := hv 27 (by decide)
          clear hv
          have HS := hide hS
          clear hS
          unfold plA
          rw [v27]
          go_wp2
          subst hu
          go_meet
          case rel => exact ⟨rfl, HS.out⟩
      case rest =>
      obtain ⟨rfl, hP⟩ := hcut
      have HST2 : Hid (PlS w g b4 l.length wc (.int .i64 ((k + 1 : Nat) : Int))) := hide ⟨k + 1, M, rfl, hkl, hP.1, hP.2.1, HOK.out, hP.2.2.2.2.2⟩
      clear hP HPT
      go_wp2
      go_roundw
      case rel => exact HST2.out
      case measure => simp [intOf]; omega
    · obtain rfl : k = l.length := by omega
      have HMO := hide (HOK.out.ok (by omega))
      obtain ⟨o, ho⟩ : ∃ o : ByteArray, o = ⟨(textB25 M).toArray⟩ := ⟨_, rfl⟩
      have HO := hide ho
      have HP : Hid (IM wr g M ∧ RM wr b4 M ∧ Below w.heap.size w wr) := hide ⟨hM, hR, hb⟩
      clear ho hM hR hok hb HB HOK HST
      go_upto_region 25 with fail
      refine wp_region_valsF (plB g b4) (fun j => if j = 15 then 2 else 146 + j) (fun w' => IM w' g M ∧ RM w' b4 M ∧ Below w.heap.size w w') (plW g M o) (by kernel_rfl) (by kernel_rfl) rfl (fun _ _ hb h => ⟨h.1.below hb, h.2.1.below hb, h.2.2.trans (hb.mono h.2.2.size)⟩) plW.on (show IM (World.drew _) g M ∧ RM (World.drew _) b4 M ∧ Below w.heap.size w (World.drew _) from ⟨HP.out.1, HP.out.2.1, HP.out.2.2.drew⟩) ?_ ?_ ?_
      · exact fun u => ⟨fun x v => rfl, fun x v => rfl, fun x v => rfl, fun x v => rfl, fun x v => rfl, fun x v => rfl, fun x v => rfl, fun x v => rfl, fun x v => rfl, fun x v => rfl, fun x v => rfl, fun x v => rfl, fun x v => rfl, fun x v => rfl, fun x v => rfl, fun x v => rfl, trivial⟩
      · refine fun u => ⟨?_, ?_, ?_, ?_, ?_, ?_, ?_, ?_, ?_, ?_, ?_, ?_, ?_, ?_, ?_, ?_, trivial⟩
        · intro x w' hS hd K hK
          refine ⟨rfl, ?_⟩
          unfold plB at hK ⊢
          go_wp2
          exact hK (.pointer (some ⟨g, 0, none⟩)) w' (Below.refl _ _) rfl
        · intro x w' hS hd K hK
          have d0 : x 0 = .pointer (some ⟨g, 0, none⟩) := by first | exact hd _ List.mem_cons_self | exact hd _ (List.mem_cons_of_mem _ List.mem_cons_self) | exact hd _ (List.mem_cons_of_mem _ (List.mem_cons_of_mem _ List.mem_cons_self)) | exact hd _ (List.mem_cons_of_mem _ (List.mem_cons_of_mem _ (List.mem_cons_of_mem _ List.mem_cons_self))) | exact hd _ (List.mem_cons_of_mem _ (List.mem_cons_of_mem _ (List.mem_cons_of_mem _ (List.mem_cons_of_mem _ List.mem_cons_self)))) | exact hd _ (List.mem_cons_of_mem _ (List.mem_cons_of_mem _ (List.mem_cons_of_mem _ (List.mem_cons_of_mem _ (List.mem_cons_of_mem _ List.mem_cons_self))))) | exact hd _ (List.mem_cons_of_mem _ (List.mem_cons_of_mem _ (List.mem_cons_of_mem _ (List.mem_cons_of_mem _ (List.mem_cons_of_mem _ (List.mem_cons_of_mem _ List.mem_cons_self)))))) | exact hd _ (List.mem_cons_of_mem _ (List.mem_cons_of_mem _ (List.mem_cons_of_mem _ (List.mem_cons_of_mem _ (List.mem_cons_of_mem _ (List.mem_cons_of_mem _ (List.mem_cons_of_mem _ List.mem_cons_self)))))))
          refine ⟨rfl, ?_⟩
          unfold plB at hK ⊢
          simp only [d0] at hK ⊢
          go_wp2_with fail
          refine (all_any g M _ hS.1).mono ?_
          rintro e w2 ⟨v, rfl, hO, hb2⟩
          exact hK (v) w2 hb2 (IntArg.of_row hO)
        · intro x w' hS hd K hK
          refine ⟨rfl, ?_⟩
          obtain ⟨C, hC, rC⟩ := hS.2.1
          exact wp_loadv 30 (.tmp 4) rfl rfl (load30 rC hC) (hK (.agg C) w' (Below.refl _ _) ⟨C, rfl, rC⟩)
        · intro x w' hS hd K hK
          obtain ⟨C, e2, r2⟩ : ∃ C, x 2 = .agg C ∧ Rep C M := by first | exact hd _ List.mem_cons_self | exact hd _ (List.mem_cons_of_mem _ List.mem_cons_self) | exact hd _ (List.mem_cons_of_mem _ (List.mem_cons_of_mem _ List.mem_cons_self)) | exact hd _ (List.mem_cons_of_mem _ (List.mem_cons_of_mem _ (List.mem_cons_of_mem _ List.mem_cons_self))) | exact hd _ (List.mem_cons_of_mem _ (List.mem_cons_of_mem _ (List.mem_cons_of_mem _ (List.mem_cons_of_mem _ List.mem_cons_self)))) | exact hd _ (List.mem_cons_of_mem _ (List.mem_cons_of_mem _ (List.mem_cons_of_mem _ (List.mem_cons_of_mem _ (List.mem_cons_of_mem _ List.mem_cons_self))))) | exact hd _ (List.mem_cons_of_mem _ (List.mem_cons_of_mem _ (List.mem_cons_of_mem _ (List.mem_cons_of_mem _ (List.mem_cons_of_mem _ (List.mem_cons_of_mem _ List.mem_cons_self)))))) | exact hd _ (List.mem_cons_of_mem _ (List.mem_cons_of_mem _ (List.mem_cons_of_mem _ (List.mem_cons_of_mem _ (List.mem_cons_of_mem _ (List.mem_cons_of_mem _ (List.mem_cons_of_mem _ List.mem_cons_self)))))))
          refine ⟨rfl, ?_⟩
          unfold plB at hK ⊢
          simp only [e2] at hK ⊢
          go_wp2_with fail
          refine (rall_any C M r2 HMO.out.1 _).mono ?_
          rintro e w2 ⟨v, rfl, hO, hb2⟩
          exact hK (v) w2 hb2 (IntArg.of_row hO)
        · intro x w' hS hd K hK
          have i1 : IntArg w' (x 1) (entUp M 256) := by first | exact hd _ List.mem_cons_self | exact hd _ (List.mem_cons_of_mem _ List.mem_cons_self) | exact hd _ (List.mem_cons_of_mem _ (List.mem_cons_of_mem _ List.mem_cons_self)) | exact hd _ (List.mem_cons_of_mem _ (List.mem_cons_of_mem _ (List.mem_cons_of_mem _ List.mem_cons_self))) | exact hd _ (List.mem_cons_of_mem _ (List.mem_cons_of_mem _ (List.mem_cons_of_mem _ (List.mem_cons_of_mem _ List.mem_cons_self)))) | exact hd _ (List.mem_cons_of_mem _ (List.mem_cons_of_mem _ (List.mem_cons_of_mem _ (List.mem_cons_of_mem _ (List.mem_cons_of_mem _ List.mem_cons_self))))) | exact hd _ (List.mem_cons_of_mem _ (List.mem_cons_of_mem _ (List.mem_cons_of_mem _ (List.mem_cons_of_mem _ (List.mem_cons_of_mem _ (List.mem_cons_of_mem _ List.mem_cons_self)))))) | exact hd _ (List.mem_cons_of_mem _ (List.mem_cons_of_mem _ (List.mem_cons_of_mem _ (List.mem_cons_of_mem _ (List.mem_cons_of_mem _ (List.mem_cons_of_mem _ (List.mem_cons_of_mem _ List.mem_cons_self)))))))
          have i3 : IntArg w' (x 3) (entUp M 256) := by first | exact hd _ List.mem_cons_self | exact hd _ (List.mem_cons_of_mem _ List.mem_cons_self) | exact hd _ (List.mem_cons_of_mem _ (List.mem_cons_of_mem _ List.mem_cons_self)) | exact hd _ (List.mem_cons_of_mem _ (List.mem_cons_of_mem _ (List.mem_cons_of_mem _ List.mem_cons_self))) | exact hd _ (List.mem_cons_of_mem _ (List.mem_cons_of_mem _ (List.mem_cons_of_mem _ (List.mem_cons_of_mem _ List.mem_cons_self)))) | exact hd _ (List.mem_cons_of_mem _ (List.mem_cons_of_mem _ (List.mem_cons_of_mem _ (List.mem_cons_of_mem _ (List.mem_cons_of_mem _ List.mem_cons_self))))) | exact hd _ (List.mem_cons_of_mem _ (List.mem_cons_of_mem _ (List.mem_cons_of_mem _ (List.mem_cons_of_mem _ (List.mem_cons_of_mem _ (List.mem_cons_of_mem _ List.mem_cons_self)))))) | exact hd _ (List.mem_cons_of_mem _ (List.mem_cons_of_mem _ (List.mem_cons_of_mem _ (List.mem_cons_of_mem _ (List.mem_cons_of_mem _ (List.mem_cons_of_mem _ (List.mem_cons_of_mem _ List.mem_cons_self)))))))
          refine ⟨rfl, ?_⟩
          unfold plB at hK ⊢
          generalize x 1 = v1 at i1 hK ⊢
          generalize x 3 = v3 at i3 hK ⊢
          go_wp2_with fail
          refine (ints_yes v1 v3 (entUp M 256) _ (Nat.le_trans (entUp_len M 256) (by decide)) i1 i3).mono ?_
          rintro e w2 ⟨rfl, hb2⟩
          exact hK (.bool true) w2 hb2 rfl
        · intro x w' hS hd K hK
          have d0 : x 4 = .bool true := by first | exact hd _ List.mem_cons_self | exact hd _ (List.mem_cons_of_mem _ List.mem_cons_self) | exact hd _ (List.mem_cons_of_mem _ (List.mem_cons_of_mem _ List.mem_cons_self)) | exact hd _ (List.mem_cons_of_mem _ (List.mem_cons_of_mem _ (List.mem_cons_of_mem _ List.mem_cons_self))) | exact hd _ (List.mem_cons_of_mem _ (List.mem_cons_of_mem _ (List.mem_cons_of_mem _ (List.mem_cons_of_mem _ List.mem_cons_self)))) | exact hd _ (List.mem_cons_of_mem _ (List.mem_cons_of_mem _ (List.mem_cons_of_mem _ (List.mem_cons_of_mem _ (List.mem_cons_of_mem _ List.mem_cons_self))))) | exact hd _ (List.mem_cons_of_mem _ (List.mem_cons_of_mem _ (List.mem_cons_of_mem _ (List.mem_cons_of_mem _ (List.mem_cons_of_mem _ (List.mem_cons_of_mem _ List.mem_cons_self)))))) | exact hd _ (List.mem_cons_of_mem _ (List.mem_cons_of_mem _ (List.mem_cons_of_mem _ (List.mem_cons_of_mem _ (List.mem_cons_of_mem _ (List.mem_cons_of_mem _ (List.mem_cons_of_mem _ List.mem_cons_self)))))))
          refine ⟨rfl, ?_⟩
          unfold plB at hK ⊢
          simp only [d0] at hK ⊢
          go_wp2
          exact hK (.bool true) w' (Below.refl _ _) rfl
        · intro x w' hS hd K hK
          have d0 : x 5 = .bool true := by first | exact hd _ List.mem_cons_self | exact hd _ (List.mem_cons_of_mem _ List.mem_cons_self) | exact hd _ (List.mem_cons_of_mem _ (List.mem_cons_of_mem _ List.mem_cons_self)) | exact hd _ (List.mem_cons_of_mem _ (List.mem_cons_of_mem _ (List.mem_cons_of_mem _ List.mem_cons_self))) | exact hd _ (List.mem_cons_of_mem _ (List.mem_cons_of_mem _ (List.mem_cons_of_mem _ (List.mem_cons_of_mem _ List.mem_cons_self)))) | exact hd _ (List.mem_cons_of_mem _ (List.mem_cons_of_mem _ (List.mem_cons_of_mem _ (List.mem_cons_of_mem _ (List.mem_cons_of_mem _ List.mem_cons_self))))) | exact hd _ (List.mem_cons_of_mem _ (List.mem_cons_of_mem _ (List.mem_cons_of_mem _ (List.mem_cons_of_mem _ (List.mem_cons_of_mem _ (List.mem_cons_of_mem _ List.mem_cons_self)))))) | exact hd _ (List.mem_cons_of_mem _ (List.mem_cons_of_mem _ (List.mem_cons_of_mem _ (List.mem_cons_of_mem _ (List.mem_cons_of_mem _ (List.mem_cons_of_mem _ (List.mem_cons_of_mem _ List.mem_cons_self)))))))
          refine ⟨by unfold plB; rw [d0]; rfl, ?_⟩
          unfold plB at hK ⊢
          simp only [d0] at hK ⊢
          go_wp2
          exact hK (.pointer (some ⟨g, 0, none⟩)) w' (Below.refl _ _) rfl
        · intro x w' hS hd K hK
          have d0 : x 6 = .pointer (some ⟨g, 0, none⟩) := by first | exact hd _ List.mem_cons_self | exact hd _ (List.mem_cons_of_mem _ List.mem_cons_self) | exact hd _ (List.mem_cons_of_mem _ (List.mem_cons_of_mem _ List.mem_cons_self)) | exact hd _ (List.mem_cons_of_mem _ (List.mem_cons_of_mem _ (List.mem_cons_of_mem _ List.mem_cons_self))) | exact hd _ (List.mem_cons_of_mem _ (List.mem_cons_of_mem _ (List.mem_cons_of_mem _ (List.mem_cons_of_mem _ List.mem_cons_self)))) | exact hd _ (List.mem_cons_of_mem _ (List.mem_cons_of_mem _ (List.mem_cons_of_mem _ (List.mem_cons_of_mem _ (List.mem_cons_of_mem _ List.mem_cons_self))))) | exact hd _ (List.mem_cons_of_mem _ (List.mem_cons_of_mem _ (List.mem_cons_of_mem _ (List.mem_cons_of_mem _ (List.mem_cons_of_mem _ (List.mem_cons_of_mem _ List.mem_cons_self)))))) | exact hd _ (List.mem_cons_of_mem _ (List.mem_cons_of_mem _ (List.mem_cons_of_mem _ (List.mem_cons_of_mem _ (List.mem_cons_of_mem _ (List.mem_cons_of_mem _ (List.mem_cons_of_mem _ List.mem_cons_self)))))))
          have d1 : x 5 = .bool true := by first | exact hd _ List.mem_cons_self | exact hd _ (List.mem_cons_of_mem _ List.mem_cons_self) | exact hd _ (List.mem_cons_of_mem _ (List.mem_cons_of_mem _ List.mem_cons_self)) | exact hd _ (List.mem_cons_of_mem _ (List.mem_cons_of_mem _ (List.mem_cons_of_mem _ List.mem_cons_self))) | exact hd _ (List.mem_cons_of_mem _ (List.mem_cons_of_mem _ (List.mem_cons_of_mem _ (List.mem_cons_of_mem _ List.mem_cons_self)))) | exact hd _ (List.mem_cons_of_mem _ (List.mem_cons_of_mem _ (List.mem_cons_of_mem _ (List.mem_cons_of_mem _ (List.mem_cons_of_mem _ List.mem_cons_self))))) | exact hd _ (List.mem_cons_of_mem _ (List.mem_cons_of_mem _ (List.mem_cons_of_mem _ (List.mem_cons_of_mem _ (List.mem_cons_of_mem _ (List.mem_cons_of_mem _ List.mem_cons_self)))))) | exact hd _ (List.mem_cons_of_mem _ (List.mem_cons_of_mem _ (List.mem_cons_of_mem _ (List.mem_cons_of_mem _ (List.mem_cons_of_mem _ (List.mem_cons_of_mem _ (List.mem_cons_of_mem _ List.mem_cons_self)))))))
          refine ⟨by unfold plB; rw [d1]; rfl, ?_⟩
          unfold plB at hK ⊢
          simp only [d0, d1] at hK ⊢
          go_wp2_with fail
          refine (mtext_any g M _ hS.1 HMO.out).mono ?_
          rintro e w2 ⟨rfl, hb2⟩
          rw [← HO.out]
          exact hK (.string o) w2 hb2 rfl
        · intro x w' hS hd K hK
          have d0 : x 5 = .bool true := by first | exact hd _ List.mem_cons_self | exact hd _ (List.mem_cons_of_mem _ List.mem_cons_self) | exact hd _ (List.mem_cons_of_mem _ (List.mem_cons_of_mem _ List.mem_cons_self)) | exact hd _ (List.mem_cons_of_mem _ (List.mem_cons_of_mem _ (List.mem_cons_of_mem _ List.mem_cons_self))) | exact hd _ (List.mem_cons_of_mem _ (List.mem_cons_of_mem _ (List.mem_cons_of_mem _ (List.mem_cons_of_mem _ List.mem_cons_self)))) | exact hd _ (List.mem_cons_of_mem _ (List.mem_cons_of_mem _ (List.mem_cons_of_mem _ (List.mem_cons_of_mem _ (List.mem_cons_of_mem _ List.mem_cons_self))))) | exact hd _ (List.mem_cons_of_mem _ (List.mem_cons_of_mem _ (List.mem_cons_of_mem _ (List.mem_cons_of_mem _ (List.mem_cons_of_mem _ (List.mem_cons_of_mem _ List.mem_cons_self)))))) | exact hd _ (List.mem_cons_of_mem _ (List.mem_cons_of_mem _ (List.mem_cons_of_mem _ (List.mem_cons_of_mem _ (List.mem_cons_of_mem _ (List.mem_cons_of_mem _ (List.mem_cons_of_mem _ List.mem_cons_self)))))))
          refine ⟨by unfold plB; rw [d0]; rfl, ?_⟩
          obtain ⟨C, hC, rC⟩ := hS.2.1
          exact wp_loadv 30 (.tmp 4) rfl rfl (load30 rC hC) (hK (.agg C) w' (Below.refl _ _) ⟨C, rfl, rC⟩)
        · intro x w' hS hd K hK
          have d0 : x 5 = .bool true := by first | exact hd _ List.mem_cons_self | exact hd _ (List.mem_cons_of_mem _ List.mem_cons_self) | exact hd _ (List.mem_cons_of_mem _ (List.mem_cons_of_mem _ List.mem_cons_self)) | exact hd _ (List.mem_cons_of_mem _ (List.mem_cons_of_mem _ (List.mem_cons_of_mem _ List.mem_cons_self))) | exact hd _ (List.mem_cons_of_mem _ (List.mem_cons_of_mem _ (List.mem_cons_of_mem _ (List.mem_cons_of_mem _ List.mem_cons_self)))) | exact hd _ (List.mem_cons_of_mem _ (List.mem_cons_of_mem _ (List.mem_cons_of_mem _ (List.mem_cons_of_mem _ (List.mem_cons_of_mem _ List.mem_cons_self))))) | exact hd _ (List.mem_cons_of_mem _ (List.mem_cons_of_mem _ (List.mem_cons_of_mem _ (List.mem_cons_of_mem _ (List.mem_cons_of_mem _ (List.mem_cons_of_mem _ List.mem_cons_self)))))) | exact hd _ (List.mem_cons_of_mem _ (List.mem_cons_of_mem _ (List.mem_cons_of_mem _ (List.mem_cons_of_mem _ (List.mem_cons_of_mem _ (List.mem_cons_of_mem _ (List.mem_cons_of_mem _ List.mem_cons_self)))))))
          obtain ⟨C, e8, r8⟩ : ∃ C, x 8 = .agg C ∧ Rep C M := by first | exact hd _ List.mem_cons_self | exact hd _ (List.mem_cons_of_mem _ List.mem_cons_self) | exact hd _ (List.mem_cons_of_mem _ (List.mem_cons_of_mem _ List.mem_cons_self)) | exact hd _ (List.mem_cons_of_mem _ (List.mem_cons_of_mem _ (List.mem_cons_of_mem _ List.mem_cons_self))) | exact hd _ (List.mem_cons_of_mem _ (List.mem_cons_of_mem _ (List.mem_cons_of_mem _ (List.mem_cons_of_mem _ List.mem_cons_self)))) | exact hd _ (List.mem_cons_of_mem _ (List.mem_cons_of_mem _ (List.mem_cons_of_mem _ (List.mem_cons_of_mem _ (List.mem_cons_of_mem _ List.mem_cons_self))))) | exact hd _ (List.mem_cons_of_mem _ (List.mem_cons_of_mem _ (List.mem_cons_of_mem _ (List.mem_cons_of_mem _ (List.mem_cons_of_mem _ (List.mem_cons_of_mem _ List.mem_cons_self)))))) | exact hd _ (List.mem_cons_of_mem _ (List.mem_cons_of_mem _ (List.mem_cons_of_mem _ (List.mem_cons_of_mem _ (List.mem_cons_of_mem _ (List.mem_cons_of_mem _ (List.mem_cons_of_mem _ List.mem_cons_self)))))))
          refine ⟨by unfold plB; rw [d0]; rfl, ?_⟩
          unfold plB at hK ⊢
          simp only [d0] at hK ⊢
          simp only [e8] at hK ⊢
          go_wp2_with fail
          refine (rtext_any C M r8 HMO.out _).mono ?_
          rintro e w2 ⟨rfl, hb2⟩
          rw [← HO.out]
          exact hK (.string o) w2 hb2 rfl
        · intro x w' hS hd K hK
          have d0 : x 7 = .string o := by first | exact hd _ List.mem_cons_self | exact hd _ (List.mem_cons_of_mem _ List.mem_cons_self) | exact hd _ (List.mem_cons_of_mem _ (List.mem_cons_of_mem _ List.mem_cons_self)) | exact hd _ (List.mem_cons_of_mem _ (List.mem_cons_of_mem _ (List.mem_cons_of_mem _ List.mem_cons_self))) | exact hd _ (List.mem_cons_of_mem _ (List.mem_cons_of_mem _ (List.mem_cons_of_mem _ (List.mem_cons_of_mem _ List.mem_cons_self)))) | exact hd _ (List.mem_cons_of_mem _ (List.mem_cons_of_mem _ (List.mem_cons_of_mem _ (List.mem_cons_of_mem _ (List.mem_cons_of_mem _ List.mem_cons_self))))) | exact hd _ (List.mem_cons_of_mem _ (List.mem_cons_of_mem _ (List.mem_cons_of_mem _ (List.mem_cons_of_mem _ (List.mem_cons_of_mem _ (List.mem_cons_of_mem _ List.mem_cons_self)))))) | exact hd _ (List.mem_cons_of_mem _ (List.mem_cons_of_mem _ (List.mem_cons_of_mem _ (List.mem_cons_of_mem _ (List.mem_cons_of_mem _ (List.mem_cons_of_mem _ (List.mem_cons_of_mem _ List.mem_cons_self)))))))
          have d1 : x 9 = .string o := by first | exact hd _ List.mem_cons_self | exact hd _ (List.mem_cons_of_mem _ List.mem_cons_self) | exact hd _ (List.mem_cons_of_mem _ (List.mem_cons_of_mem _ List.mem_cons_self)) | exact hd _ (List.mem_cons_of_mem _ (List.mem_cons_of_mem _ (List.mem_cons_of_mem _ List.mem_cons_self))) | exact hd _ (List.mem_cons_of_mem _ (List.mem_cons_of_mem _ (List.mem_cons_of_mem _ (List.mem_cons_of_mem _ List.mem_cons_self)))) | exact hd _ (List.mem_cons_of_mem _ (List.mem_cons_of_mem _ (List.mem_cons_of_mem _ (List.mem_cons_of_mem _ (List.mem_cons_of_mem _ List.mem_cons_self))))) | exact hd _ (List.mem_cons_of_mem _ (List.mem_cons_of_mem _ (List.mem_cons_of_mem _ (List.mem_cons_of_mem _ (List.mem_cons_of_mem _ (List.mem_cons_of_mem _ List.mem_cons_self)))))) | exact hd _ (List.mem_cons_of_mem _ (List.mem_cons_of_mem _ (List.mem_cons_of_mem _ (List.mem_cons_of_mem _ (List.mem_cons_of_mem _ (List.mem_cons_of_mem _ (List.mem_cons_of_mem _ List.mem_cons_self)))))))
          have d2 : x 5 = .bool true := by first | exact hd _ List.mem_cons_self | exact hd _ (List.mem_cons_of_mem _ List.mem_cons_self) | exact hd _ (List.mem_cons_of_mem _ (List.mem_cons_of_mem _ List.mem_cons_self)) | exact hd _ (List.mem_cons_of_mem _ (List.mem_cons_of_mem _ (List.mem_cons_of_mem _ List.mem_cons_self))) | exact hd _ (List.mem_cons_of_mem _ (List.mem_cons_of_mem _ (List.mem_cons_of_mem _ (List.mem_cons_of_mem _ List.mem_cons_self)))) | exact hd _ (List.mem_cons_of_mem _ (List.mem_cons_of_mem _ (List.mem_cons_of_mem _ (List.mem_cons_of_mem _ (List.mem_cons_of_mem _ List.mem_cons_self))))) | exact hd _ (List.mem_cons_of_mem _ (List.mem_cons_of_mem _ (List.mem_cons_of_mem _ (List.mem_cons_of_mem _ (List.mem_cons_of_mem _ (List.mem_cons_of_mem _ List.mem_cons_self)))))) | exact hd _ (List.mem_cons_of_mem _ (List.mem_cons_of_mem _ (List.mem_cons_of_mem _ (List.mem_cons_of_mem _ (List.mem_cons_of_mem _ (List.mem_cons_of_mem _ (List.mem_cons_of_mem _ List.mem_cons_self)))))))
          refine ⟨by unfold plB; rw [d2]; rfl, ?_⟩
          unfold plB at hK ⊢
          simp only [d0, d1, d2] at hK ⊢
          go_wp2
          exact hK (.bool true) w' (Below.refl _ _) rfl
        · intro x w' hS hd K hK
          have d0 : x 5 = .bool true := by first | exact hd _ List.mem_cons_self | exact hd _ (List.mem_cons_of_mem _ List.mem_cons_self) | exact hd _ (List.mem_cons_of_mem _ (List.mem_cons_of_mem _ List.mem_cons_self)) | exact hd _ (List.mem_cons_of_mem _ (List.mem_cons_of_mem _ (List.mem_cons_of_mem _ List.mem_cons_self))) | exact hd _ (List.mem_cons_of_mem _ (List.mem_cons_of_mem _ (List.mem_cons_of_mem _ (List.mem_cons_of_mem _ List.mem_cons_self)))) | exact hd _ (List.mem_cons_of_mem _ (List.mem_cons_of_mem _ (List.mem_cons_of_mem _ (List.mem_cons_of_mem _ (List.mem_cons_of_mem _ List.mem_cons_self))))) | exact hd _ (List.mem_cons_of_mem _ (List.mem_cons_of_mem _ (List.mem_cons_of_mem _ (List.mem_cons_of_mem _ (List.mem_cons_of_mem _ (List.mem_cons_of_mem _ List.mem_cons_self)))))) | exact hd _ (List.mem_cons_of_mem _ (List.mem_cons_of_mem _ (List.mem_cons_of_mem _ (List.mem_cons_of_mem _ (List.mem_cons_of_mem _ (List.mem_cons_of_mem _ (List.mem_cons_of_mem _ List.mem_cons_self)))))))
          have d1 : x 10 = .bool true := by first | exact hd _ List.mem_cons_self | exact hd _ (List.mem_cons_of_mem _ List.mem_cons_self) | exact hd _ (List.mem_cons_of_mem _ (List.mem_cons_of_mem _ List.mem_cons_self)) | exact hd _ (List.mem_cons_of_mem _ (List.mem_cons_of_mem _ (List.mem_cons_of_mem _ List.mem_cons_self))) | exact hd _ (List.mem_cons_of_mem _ (List.mem_cons_of_mem _ (List.mem_cons_of_mem _ (List.mem_cons_of_mem _ List.mem_cons_self)))) | exact hd _ (List.mem_cons_of_mem _ (List.mem_cons_of_mem _ (List.mem_cons_of_mem _ (List.mem_cons_of_mem _ (List.mem_cons_of_mem _ List.mem_cons_self))))) | exact hd _ (List.mem_cons_of_mem _ (List.mem_cons_of_mem _ (List.mem_cons_of_mem _ (List.mem_cons_of_mem _ (List.mem_cons_of_mem _ (List.mem_cons_of_mem _ List.mem_cons_self)))))) | exact hd _ (List.mem_cons_of_mem _ (List.mem_cons_of_mem _ (List.mem_cons_of_mem _ (List.mem_cons_of_mem _ (List.mem_cons_of_mem _ (List.mem_cons_of_mem _ (List.mem_cons_of_mem _ List.mem_cons_self)))))))
          refine ⟨rfl, ?_⟩
          unfold plB at hK ⊢
          simp only [d0, d1] at hK ⊢
          go_wp2
          exact hK (.bool true) w' (Below.refl _ _) rfl
        · intro x w' hS hd K hK
          have d0 : x 11 = .bool true := by first | exact hd _ List.mem_cons_self | exact hd _ (List.mem_cons_of_mem _ List.mem_cons_self) | exact hd _ (List.mem_cons_of_mem _ (List.mem_cons_of_mem _ List.mem_cons_self)) | exact hd _ (List.mem_cons_of_mem _ (List.mem_cons_of_mem _ (List.mem_cons_of_mem _ List.mem_cons_self))) | exact hd _ (List.mem_cons_of_mem _ (List.mem_cons_of_mem _ (List.mem_cons_of_mem _ (List.mem_cons_of_mem _ List.mem_cons_self)))) | exact hd _ (List.mem_cons_of_mem _ (List.mem_cons_of_mem _ (List.mem_cons_of_mem _ (List.mem_cons_of_mem _ (List.mem_cons_of_mem _ List.mem_cons_self))))) | exact hd _ (List.mem_cons_of_mem _ (List.mem_cons_of_mem _ (List.mem_cons_of_mem _ (List.mem_cons_of_mem _ (List.mem_cons_of_mem _ (List.mem_cons_of_mem _ List.mem_cons_self)))))) | exact hd _ (List.mem_cons_of_mem _ (List.mem_cons_of_mem _ (List.mem_cons_of_mem _ (List.mem_cons_of_mem _ (List.mem_cons_of_mem _ (List.mem_cons_of_mem _ (List.mem_cons_of_mem _ List.mem_cons_self)))))))
          refine ⟨rfl, ?_⟩
          unfold plB at hK ⊢
          simp only [d0] at hK ⊢
          go_wp2
          exact hK (.bool true) w' (Below.refl _ _) rfl
        · intro x w' hS hd K hK
          have d0 : x 12 = .bool true := by first | exact hd _ List.mem_cons_self | exact hd _ (List.mem_cons_of_mem _ List.mem_cons_self) | exact hd _ (List.mem_cons_of_mem _ (List.mem_cons_of_mem _ List.mem_cons_self)) | exact hd _ (List.mem_cons_of_mem _ (List.mem_cons_of_mem _ (List.mem_cons_of_mem _ List.mem_cons_self))) | exact hd _ (List.mem_cons_of_mem _ (List.mem_cons_of_mem _ (List.mem_cons_of_mem _ (List.mem_cons_of_mem _ List.mem_cons_self)))) | exact hd _ (List.mem_cons_of_mem _ (List.mem_cons_of_mem _ (List.mem_cons_of_mem _ (List.mem_cons_of_mem _ (List.mem_cons_of_mem _ List.mem_cons_self))))) | exact hd _ (List.mem_cons_of_mem _ (List.mem_cons_of_mem _ (List.mem_cons_of_mem _ (List.mem_cons_of_mem _ (List.mem_cons_of_mem _ (List.mem_cons_of_mem _ List.mem_cons_self)))))) | exact hd _ (List.mem_cons_of_mem _ (List.mem_cons_of_mem _ (List.mem_cons_of_mem _ (List.mem_cons_of_mem _ (List.mem_cons_of_mem _ (List.mem_cons_of_mem _ (List.mem_cons_of_mem _ List.mem_cons_self)))))))
          refine ⟨by unfold plB; rw [d0]; rfl, ?_⟩
          unfold plB at hK ⊢
          simp only [d0] at hK ⊢
          go_wp2_with fail
          refine (awake25 _).mono ?_
          rintro e w2 ⟨rfl, hb2⟩
          exact hK (.bool true) w2 hb2 rfl
        · intro x w' hS hd K hK
          have d0 : x 12 = .bool true := by first | exact hd _ List.mem_cons_self | exact hd _ (List.mem_cons_of_mem _ List.mem_cons_self) | exact hd _ (List.mem_cons_of_mem _ (List.mem_cons_of_mem _ List.mem_cons_self)) | exact hd _ (List.mem_cons_of_mem _ (List.mem_cons_of_mem _ (List.mem_cons_of_mem _ List.mem_cons_self))) | exact hd _ (List.mem_cons_of_mem _ (List.mem_cons_of_mem _ (List.mem_cons_of_mem _ (List.mem_cons_of_mem _ List.mem_cons_self)))) | exact hd _ (List.mem_cons_of_mem _ (List.mem_cons_of_mem _ (List.mem_cons_of_mem _ (List.mem_cons_of_mem _ (List.mem_cons_of_mem _ List.mem_cons_self))))) | exact hd _ (List.mem_cons_of_mem _ (List.mem_cons_of_mem _ (List.mem_cons_of_mem _ (List.mem_cons_of_mem _ (List.mem_cons_of_mem _ (List.mem_cons_of_mem _ List.mem_cons_self)))))) | exact hd _ (List.mem_cons_of_mem _ (List.mem_cons_of_mem _ (List.mem_cons_of_mem _ (List.mem_cons_of_mem _ (List.mem_cons_of_mem _ (List.mem_cons_of_mem _ (List.mem_cons_of_mem _ List.mem_cons_self)))))))
          have d1 : x 13 = .bool true := by first | exact hd _ List.mem_cons_self | exact hd _ (List.mem_cons_of_mem _ List.mem_cons_self) | exact hd _ (List.mem_cons_of_mem _ (List.mem_cons_of_mem _ List.mem_cons_self)) | exact hd _ (List.mem_cons_of_mem _ (List.mem_cons_of_mem _ (List.mem_cons_of_mem _ List.mem_cons_self))) | exact hd _ (List.mem_cons_of_mem _ (List.mem_cons_of_mem _ (List.mem_cons_of_mem _ (List.mem_cons_of_mem _ List.mem_cons_self)))) | exact hd _ (List.mem_cons_of_mem _ (List.mem_cons_of_mem _ (List.mem_cons_of_mem _ (List.mem_cons_of_mem _ (List.mem_cons_of_mem _ List.mem_cons_self))))) | exact hd _ (List.mem_cons_of_mem _ (List.mem_cons_of_mem _ (List.mem_cons_of_mem _ (List.mem_cons_of_mem _ (List.mem_cons_of_mem _ (List.mem_cons_of_mem _ List.mem_cons_self)))))) | exact hd _ (List.mem_cons_of_mem _ (List.mem_cons_of_mem _ (List.mem_cons_of_mem _ (List.mem_cons_of_mem _ (List.mem_cons_of_mem _ (List.mem_cons_of_mem _ (List.mem_cons_of_mem _ List.mem_cons_self)))))))
          refine ⟨rfl, ?_⟩
          unfold plB at hK ⊢
          simp only [d0, d1] at hK ⊢
          go_wp2
          exact hK (.bool true) w' (Below.refl _ _) rfl
        · intro x w' hS hd K hK
          have d0 : x 14 = .bool true := by first | exact hd _ List.mem_cons_self | exact hd _ (List.mem_cons_of_mem _ List.mem_cons_self) | exact hd _ (List.mem_cons_of_mem _ (List.mem_cons_of_mem _ List.mem_cons_self)) | exact hd _ (List.mem_cons_of_mem _ (List.mem_cons_of_mem _ (List.mem_cons_of_mem _ List.mem_cons_self))) | exact hd _ (List.mem_cons_of_mem _ (List.mem_cons_of_mem _ (List.mem_cons_of_mem _ (List.mem_cons_of_mem _ List.mem_cons_self)))) | exact hd _ (List.mem_cons_of_mem _ (List.mem_cons_of_mem _ (List.mem_cons_of_mem _ (List.mem_cons_of_mem _ (List.mem_cons_of_mem _ List.mem_cons_self))))) | exact hd _ (List.mem_cons_of_mem _ (List.mem_cons_of_mem _ (List.mem_cons_of_mem _ (List.mem_cons_of_mem _ (List.mem_cons_of_mem _ (List.mem_cons_of_mem _ List.mem_cons_self)))))) | exact hd _ (List.mem_cons_of_mem _ (List.mem_cons_of_mem _ (List.mem_cons_of_mem _ (List.mem_cons_of_mem _ (List.mem_cons_of_mem _ (List.mem_cons_of_mem _ (List.mem_cons_of_mem _ List.mem_cons_self)))))))
          refine ⟨rfl, ?_⟩
          unfold plB at hK ⊢
          simp only [d0] at hK ⊢
          go_wp2
          exact hK (.bool true) w' (Below.refl _ _) rfl
      · intro u hu x w' hS hv
        have v15 : x 15 = .bool true := hv 15 (by decide)
        have HS := hide hS.2.2
        clear hv hu hS
        unfold plB
        rw [v15]
        go_wp2
        go_ret
        exact ⟨rfl, HS.out⟩
end Go.Proofs.Ytljmaicobafgkaa
end
