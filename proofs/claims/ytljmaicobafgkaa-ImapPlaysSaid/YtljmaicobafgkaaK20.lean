/- A join of 1 texts of this claim: Im12. Conditions: none of their own. -/
import Derived.Test.YtljmaicobafgkaaK19
import Derived.Test.YtljmaicobafgkaaK17
import Derived.Test.YtljmaicobafgkaaK13
import Derived.Test.YtljmaicobafgkaaK4
import Derived.Test.YtljmaicobafgkaaK12
section
/- Chapter 25, imap: the reference's All and Text. -/
namespace Go.Proofs.Ytljmaicobafgkaa
open Go.RowKit

theorem app_i {w : World} {B : Nat} {v : Value} {l : List (Nat × Spot)} (h : w.ownsRow B 3 1 v l.length (allL l)) (x : Nat × Spot) {g' : Nat} (hg : w.heap[g']? = some (.cells #[.int .i64 (x.1 : Int)] 3 (0, 0))) (hl : l.length ≤ 1048576) (hB : B ≤ w.heap.size) (ty : TypeId) :
    ∃ v' w', (Builtin.append_ #[49, 49] ty #[v, .slice (some ⟨g', 0, none⟩) 1 1]).run Try.prog w = .ok v' w' ∧ w'.ownsRow B 3 1 v' (l ++ [x]).length (allL (l ++ [x])) ∧ Fr (fun k => v.ownBlock = some k) w w' := by
  obtain ⟨i0, hi0, hz0, hz1, hz2⟩ := info_parts info3
  obtain ⟨v', w', hrun, hown, hgr, _, _⟩ := run_append_own_at (P := Try.prog) w B 49 ty 3 i0 _ 1 8 Try.underlying49 hi0 hz0 hz1 hz2 rfl (by decide) v l.length (allL l) h ⟨g', 0, none⟩ 1 1 [.int .i64 (x.1 : Int)] rfl
    (fun j u hu => by rw [add_plain', Nat.zero_add, obj_cell hg, ← hu]; simp) (by simp [Value.oneCell']) (by simp only [maxLen]; omega) (by omega) hB
  refine ⟨v', w', hrun, ?_, (Fr.refl _ w).grown hgr (fun k hk _ => hk)⟩
  rw [List.length_append, allL_snoc]
  exact hown
def AllS (w0 : World) (M : Nat → Spot) (w : World) (ov iv : Value) : Prop := ∃ k : Nat, iv = .int .i64 k ∧ 1 ≤ k ∧ k ≤ 256 ∧ w.ownsRow (w0.heap.size + 1) 3 1 ov (entUp M k).length (allL (entUp M k)) ∧ RM w w0.heap.size M ∧ Below w0.heap.size w0 w
set_option maxHeartbeats 4000000 in
set_option maxRecDepth 100000 in
theorem rall_any (C : Array Value) (M : Nat → Spot) (r : Rep C M) (h00 : (M 0).ver = 0) (w : World) : Calls Try.prog 39 #[.agg C] w fun e W' => ∃ v, e = .returned v ∧ W'.ownsRow (w.heap.size + 1) 3 1 v (entUp M 256).length (allL (entUp M 256)) ∧ Below w.heap.size w W' := by
  have e1 : entUp M 1 = [] := by rw [entUp_miss M (by rw [h00]; decide)]; rfl
  have HS : Hid (AllS w M (w.alloc (.cells C 30)) (.slice none 0 0) (.int .i64 1)) := hide ⟨1, rfl, by decide, by decide, by rw [e1]; exact World.ownsRow_nil _ _ _ _, rm_new r w, (Below.refl _ _).alloc (Nat.le_refl _) _⟩
  clear e1
  go_enter Try.func39, Try.ntmps39
  go_wp2_with fail
  go_loopw [3, 4] (fun ov iv wr => AllS w M wr ov iv) (fun _ i _ => 256 - (intOf i).toNat)
  case atStart => exact HS.out
  case round =>
    obtain ⟨k, rfl, hk1, hk, hO, hR, hb⟩ := hrel
    have HR := hide hR
    have HB := hide hb
    have HO := hide hO
    obtain ⟨A, c, rfl⟩ := row_slice hO
    have hkl := entUp_len M k
    clear hO hR hb
    rcases Nat.lt_or_ge k 256 with hlt | hge
    · obtain ⟨-, -, -, d⟩ := HR.out.cells hlt
      by_cases h0 : 0 < (M k).ver
      · have hsz : w.heap.size + 1 ≤ wr.heap.size := HR.out.lt
        obtain ⟨v', w6, hrun, hO6, hf6⟩ := app_i (w := wr.alloc (.cells #[.int .i64 (k : Int)] 3)) (row_below HO.out ((Below.refl _ _).alloc (Nat.le_refl _) _)) (k, M k) (g' := wr.heap.size) (obj_new _ _) (by omega) (by simp; omega) 49
        obtain ⟨A6, m6, rfl⟩ := row_slice hO6
        rw [← entUp_hit M h0] at hrun hO6
        have hne : ¬ (Value.slice A (entUp M k).length c).ownBlock = some w.heap.size := fun h => by
          have := (row_typed HO.out h).1
          omega
        have HST2 : Hid (AllS w M w6 (.slice A6 (entUp M (k + 1)).length m6) (.int .i64 ((k + 1 : Nat) : Int))) := hide ⟨k + 1, rfl, by omega, by omega, hO6, (HR.out.below ((Below.refl _ _).alloc (Nat.le_refl _) _)).fr hf6 hne, (HB.out.alloc HB.out.size _).trans (hf6.below _ (by simp; omega) (fun j hj h => by
          have := (row_typed HO.out h).1
          omega))⟩
        obtain ⟨n1, hn1⟩ : ∃ n1, n1 = (entUp M k).length := ⟨_, rfl⟩
        obtain ⟨n2, hn2⟩ : ∃ n2, n2 = (entUp M (k + 1)).length := ⟨_, rfl⟩
        rw [← hn1, ← hn2] at hrun
        rw [← hn2] at HST2
        rw [← hn1]
        clear hO6 hf6 hne hn1 hn2 hkl
        go_wp2_with (at_builtin; refine wpList_append_run rfl (.tmp 15) (.tmp 17) 49 49 rfl rfl rfl hrun ?_)
        go_wp2
        go_roundw
        case rel => exact HST2.out
        case measure => simp [intOf]; omega
      · have HST2 : Hid (AllS w M wr (.slice A (entUp M k).length c) (.int .i64 ((k + 1 : Nat) : Int))) := hide ⟨k + 1, rfl, by omega, by omega, by rw [entUp_miss M h0]; exact HO.out, HR.out, HB.out⟩
        go_wp2
        go_roundw
        case rel => exact HST2.out
        case measure => simp [intOf]; omega
    · obtain rfl : k = 256 := by omega
      go_wp2
      go_ret
      exact ⟨_, rfl, HO.out, HB.out⟩
def rtA (C : Array Value) (N k c j : Nat) (a : Addr) (bo bx : Nat) (x : Spot) (s : ByteArray) (u16 u17 : Value) (y : Nat → Value) : Act := { tmps := #[.agg C, .pointer (some ⟨bo, 0, none⟩), .string ⟨#[]⟩, .slice (some a) N c, .string s, .int .i64 (k : Int), .pointer (some ⟨bx, 0, none⟩), .agg C, .slice (some a) N c, .slice (some a) N c, .int .i64 (N : Int), .string ⟨(num (N : Int)).toArray⟩, .int .i64 (k : Int), .slice (some a) N c, .int .i64 (N : Int), .bool true, u16, u17, .slice (some a) N c, .int .i64 (k : Int), .pointer (some (a.add k)), .int .i64 (j : Int), .pointer (some ⟨bo, 0, none⟩), .pointer (some ⟨bo, j * 4, none⟩), .agg #[.int .i64 x.seg, .int .i64 x.frm, .int .i64 x.len, .int .i64 x.ver], y 0, y 1, y 2, y 3, y 4, y 5, y 6, y 7, y 8, y 9, y 10, y 11, y 12, y 13, y 14, y 15, y 16, y 17, y 18, y 19, y 20, y 21, y 22, undef], defers := [] }
def rtV (N k c j : Nat) (a : Addr) (bx : Nat) (x : Spot) (s : ByteArray) (i : Nat) (v : Value) (_w : World) : Prop :=
  match i with
  | 0 => v = .string s
  | 1 => v = .slice (some a) N c
  | 2 => v = .int .i64 (k : Int)
  | 3 => v = .pointer (some (a.add k))
  | 4 => v = .int .i64 (j : Int)
  | 5 => v = .string (⟨(num (j : Int)).toArray⟩ : ByteArray)
  | 6 => v = .pointer (some ⟨bx, 0, none⟩)
  | 7 => v = .int .i64 x.seg
  | 8 => v = .string (⟨(num x.seg).toArray⟩ : ByteArray)
  | 9 => v = .string ((⟨(num (j : Int)).toArray⟩ : ByteArray) ++ (⟨(num x.seg).toArray⟩ : ByteArray))
  | 10 => v = .pointer (some ⟨bx, 1, none⟩)
  | 11 => v = .int .i64 x.frm
  | 12 => v = .string (⟨(num x.frm).toArray⟩ : ByteArray)
  | 13 => v = .string (((⟨(num (j : Int)).toArray⟩ : ByteArray) ++ (⟨(num x.seg).toArray⟩ : ByteArray)) ++ (⟨(num x.frm).toArray⟩ : ByteArray))
  | 14 => v = .pointer (some ⟨bx, 2, none⟩)
  | 15 => v = .int .i64 x.len
  | 16 => v = .string (⟨(num x.len).toArray⟩ : ByteArray)
  | 17 => v = .string ((((⟨(num (j : Int)).toArray⟩ : ByteArray) ++ (⟨(num x.seg).toArray⟩ : ByteArray)) ++ (⟨(num x.frm).toArray⟩ : ByteArray)) ++ (⟨(num x.len).toArray⟩ : ByteArray))
  | 18 => v = .pointer (some ⟨bx, 3, none⟩)
  | 19 => v = .int .i64 x.ver
  | 20 => v = .string (⟨(num x.ver).toArray⟩ : ByteArray)
  | 21 => v = .string (((((⟨(num (j : Int)).toArray⟩ : ByteArray) ++ (⟨(num x.seg).toArray⟩ : ByteArray)) ++ (⟨(num x.frm).toArray⟩ : ByteArray)) ++ (⟨(num x.len).toArray⟩ : ByteArray)) ++ (⟨(num x.ver).toArray⟩ : ByteArray))
  | 22 => v = .string (s ++ (((((⟨(num (j : Int)).toArray⟩ : ByteArray) ++ (⟨(num x.seg).toArray⟩ : ByteArray)) ++ (⟨(num x.frm).toArray⟩ : ByteArray)) ++ (⟨(num x.len).toArray⟩ : ByteArray)) ++ (⟨(num x.ver).toArray⟩ : ByteArray)))
  | _ => True
def TxtS (w0 : World) (M : Nat → Spot) (l : List (Nat × Spot)) (v : Value) (w : World) (sv iv : Value) : Prop := ∃ k : Nat, iv = .int .i64 k ∧ k ≤ l.length ∧ sv = .string ⟨(num (l.length : Int) ++ bodyB (l.take k)).toArray⟩ ∧ RM w w0.heap.size M ∧ IntArg w v l ∧ Below w0.heap.size w0 w
set_option maxHeartbeats 8000000 in
set_option maxRecDepth 1000000 in
theorem rtext_any (C : Array Value) (M : Nat → Spot) (r : Rep C M) (hm : Mok M) (w : World) : Calls Try.prog 41 #[.agg C] w fun e W' => e = .returned (.string ⟨(textB25 M).toArray⟩) ∧ Below w.heap.size w W' := by
  have hld := load30 r (obj_new w (.cells C 30))
  have HRM := hide (rm_new r w)
  have HB0 := hide ((Below.refl w.heap.size w).alloc (Nat.le_refl _) (.cells C 30))
  have hlen := entUp_len M 256
  obtain ⟨l, hl⟩ : ∃ l, l = entUp M 256 := ⟨_, rfl⟩
  have hmem : ∀ p ∈ l, p.1 < 256 ∧ p.2 = M p.1 := fun p hp => by rw [hl] at hp; exact ⟨(entUp_mem hp).1, (entUp_mem hp).2.1⟩
  rw [← hl] at hlen
  have hbl : ∀ k, (bodyB (l.take k)).length ≤ 50 * 256 := fun k => by
    refine Nat.le_trans (bodyB_le (l.take k) (fun p hp => ?_)) (Nat.mul_le_mul_left _ (by rw [List.length_take]; omega))
    obtain ⟨a, b⟩ := hmem p (List.mem_of_mem_take hp)
    have c := hm.2 p.1 a
    rw [← b] at c
    exact ⟨a, c.2.2, c.1, c.2.1⟩
  have hte : textB25 M = num (l.length : Int) ++ bodyB l := by rw [hl]; rfl
  rw [hte]
  have HBL := hide hbl
  have HMEM := hide hmem
  have HM := hide hm
  have HL := hide hl
  clear hl hbl hmem hte hm
  go_enter Try.func41, Try.ntmps41
  go_wp2_with (refine wpList_loadv rfl 30 (.tmp 1) rfl rfl hld ?_)
  refine (rall_any C M r HM.out.1 _).mono ?_
  rintro e w1 ⟨v, rfl, hO, hb1⟩
  rw [← HL.out] at hO
  obtain ⟨A, c, rfl⟩ := row_slice hO
  have HI1 := hide (IntArg.of_row hO)
  have HR1 := hide (HRM.out.below hb1)
  have HB1 := hide (HB0.out.trans (hb1.mono HB0.out.size))
  obtain ⟨N, hN⟩ : ∃ N, N = l.length := ⟨_, rfl⟩
  rw [← hN] at HI1 hlen ⊢
  have HN := hide hN
  clear hO hb1 hld hN
  go_wp2_with fail
  refine (r3Int_any (N : Int) _ (by omega) (by omega)).mono ?_
  rintro e w2 ⟨rfl, hb2⟩
  have HST : Hid (TxtS w M l (.slice A N c) w2 (.string ⟨(num (N : Int)).toArray⟩) (.int .i64 0)) := hide ⟨0, rfl, Nat.zero_le _, by rw [← HN.out]; simp [bodyB], HR1.out.below hb2, HI1.out.below hb2, HB1.out.trans (hb2.mono HB1.out.size)⟩
  clear hb2 HI1 HR1 HB1 HRM HB0
  go_wp2_with fail
  go_loopw [4, 5] (fun sv iv wr => TxtS w M l (.slice A N c) wr sv iv) (fun _ i _ => N - (intOf i).toNat)
  case atStart => exact HST.out
  case round =>
    obtain ⟨k, rfl, hk, rfl, hR, hI, hb⟩ := hrel
    have HR := hide hR
    have HI := hide hI
    have HB := hide hb
    have hk2 : k ≤ N := by rw [HN.out]; exact hk
    clear hR hI hb
    rcases Nat.lt_or_ge k N with hkN | hkN
    · have hkl : k < l.length := by have := HN.out; omega
      obtain ⟨a, cap, hv, hc1, c0⟩ := HI.out.cell hkl
      rw [← HN.out] at hv hc1
      cases hv
      obtain ⟨p1, p2⟩ := HMEM.out l[k] (List.getElem_mem hkl)
      have hsn : bodyB (l.take (k + 1)) = bodyB (l.take k) ++ entB25 l[k] := by
        rw [List.take_add_one, List.getElem?_eq_getElem hkl]
        exact bodyB_snoc _ _
      obtain ⟨j, hj⟩ : ∃ j, j = l[k].1 := ⟨_, rfl⟩
      obtain ⟨x, hx⟩ : ∃ x, x = l[k].2 := ⟨_, rfl⟩
      rw [show entB25 l[k] = entB25 (j, x) from by rw [hj, hx]] at hsn
      rw [← hj] at c0 p1
      have hxm : M j = x := by rw [hx, p2, hj]
      obtain ⟨m0, m1, m2, m3⟩ := HR.out.cells p1
      rw [hxm] at m0 m1 m2 m3
      have hok := HM.out.2 j p1
      rw [hxm] at hok
      have hrg := spot_range hok.2.2 hok.1 hok.2.1
      have hbk := HBL.out k
      obtain ⟨s, hs⟩ : ∃ s : ByteArray, s = ⟨(num (l.length : Int) ++ bodyB (l.take k)).toArray⟩ := ⟨_, rfl⟩
      have hN10 := num_ten25 (l.length : Int) (by have := HN.out; omega) (by have := HN.out; omega)
      have hss : s.size ≤ 12810 := by
        rw [hs, str_size, List.length_append]
        omega
      have n0 := num_ten25 (j : Int) (by omega) (by omega)
      have n1 := num_ten25 x.seg hrg.1.1 hrg.1.2
      have n2 := num_ten25 x.frm hrg.2.1.1 hrg.2.1.2
      have n3 := num_ten25 x.len hrg.2.2.1.1 hrg.2.2.1.2
      have n4 := num_ten25 x.ver hrg.2.2.2.1 hrg.2.2.2.2
      have hcat : s ++ (((((⟨(num (j : Int)).toArray⟩ : ByteArray) ++ (⟨(num x.seg).toArray⟩ : ByteArray)) ++ (⟨(num x.frm).toArray⟩ : ByteArray)) ++ (⟨(num x.len).toArray⟩ : ByteArray)) ++ (⟨(num x.ver).toArray⟩ : ByteArray)) = ⟨(num (l.length : Int) ++ bodyB (l.take (k + 1))).toArray⟩ := by
        rw [hs, hsn]
        unfold entB25
        apply ByteArray.ext
        simp only [ByteArray.data_append, ← Array.toList_inj, Array.toList_append, List.append_assoc]
      have HZ : Hid ((⟨(num (j : Int)).toArray⟩ : ByteArray).size + (⟨(num x.seg).toArray⟩ : ByteArray).size ≤ 20 ∧ ((⟨(num (j : Int)).toArray⟩ : ByteArray) ++ (⟨(num x.seg).toArray⟩ : ByteArray)).size + (⟨(num x.frm).toArray⟩ : ByteArray).size ≤ 30 ∧ (((⟨(num (j : Int)).toArray⟩ : ByteArray) ++ (⟨(num x.seg).toArray⟩ : ByteArray)) ++ (⟨(num x.frm).toArray⟩ : ByteArray)).size + (⟨(num x.len).toArray⟩ : ByteArray).size ≤ 40 ∧ ((((⟨(num (j : Int)).toArray⟩ : ByteArray) ++ (⟨(num x.seg).toArray⟩ : ByteArray)) ++ (⟨(num x.frm).toArray⟩ : ByteArray)) ++ (⟨(num x.len).toArray⟩ : ByteArray)).size + (⟨(num x.ver).toArray⟩ : ByteArray).size ≤ 50 ∧ s.size + (((((⟨(num (j : Int)).toArray⟩ : ByteArray) ++ (⟨(num x.seg).toArray⟩ : ByteArray)) ++ (⟨(num x.frm).toArray⟩ : ByteArray)) ++ (⟨(num x.len).toArray⟩ : ByteArray)) ++ (⟨(num x.ver).toArray⟩ : ByteArray)).size ≤ 20000) := hide (by
        simp only [ByteArray.size_append, str_size]
        omega)
      rw [← hs]
      have HCAT := hide hcat
      have HRG := hide hrg
      have HX6 := hide (obj_new wr (.cells #[.int .i64 x.seg, .int .i64 x.frm, .int .i64 x.len, .int .i64 x.ver] 27))
      have HC0 := hide c0
      have HB6 := hide (HB.out.alloc HB.out.size (.cells #[.int .i64 x.seg, .int .i64 x.frm, .int .i64 x.len, .int .i64 x.ver] 27))
      have HR6 := hide (HR.out.below ((Below.refl _ _).alloc (Nat.le_refl _) (.cells #[.int .i64 x.seg, .int .i64 x.frm, .int .i64 x.len, .int .i64 x.ver] 27)))
      have HI6 := hide (HI.out.below ((Below.refl _ _).alloc (Nat.le_refl _) (.cells #[.int .i64 x.seg, .int .i64 x.frm, .int .i64 x.len, .int .i64 x.ver] 27)))
      have HC6 := hide (((Below.refl wr.heap.size wr).alloc (Nat.le_refl _) (.cells #[.int .i64 x.seg, .int .i64 x.frm, .int .i64 x.len, .int .i64 x.ver] 27)).cell (World.block_lt_of_cell? _ _ c0) |>.trans c0)
      have hj256 : (j : Int) < 256 := by omega
      clear hs hcat hsn hj hx hxm hok hrg hbk hN10 hss n0 n1 n2 n3 n4 p2
      go_wp2_with fail
      obtain ⟨uu, huu⟩ : ∃ uu : Nat → Value, uu = fun q => [u25, u26, u27, u28, u29, u30, u31, u32, u33, u34, u35, u36, u37, u38, u39, u40, u41, u42, u43, u44, u45, u46, u47].getD q undef := ⟨_, rfl⟩
      obtain ⟨bx, hbx⟩ : ∃ bx, bx = wr.heap.size := ⟨_, rfl⟩
      obtain ⟨w6, hw6⟩ : ∃ w6, w6 = wr.alloc (.cells #[.int .i64 x.seg, .int .i64 x.frm, .int .i64 x.len, .int .i64 x.ver] 27) := ⟨_, rfl⟩
      rw [← hw6, ← hbx] at HX6
      rw [← hw6] at HB6 HR6 HI6 HC6 ⊢
      rw [← hbx]
      clear hw6 hbx
      refine wp_region_fin (rtA C N k c j a w.heap.size bx x s u16 u17) uu (fun _ w' => Below w6.heap.size w6 w') (rtV N k c j a bx x s) _ rfl rfl (by kernel_rfl) (by kernel_rfl) (by rw [huu]; rfl) (Below.refl _ _).drew ?_ ?_ ?_
      · exact ⟨fun y v => rfl, fun y v => rfl, fun y v => rfl, fun y v => rfl, fun y v => rfl, fun y v => rfl, fun y v => rfl, fun y v => rfl, fun y v => rfl, fun y v => rfl, fun y v => rfl, fun y v => rfl, fun y v => rfl, fun y v => rfl, fun y v => rfl, fun y v => rfl, fun y v => rfl, fun y v => rfl, fun y v => rfl, fun y v => rfl, fun y v => rfl, fun y v => rfl, fun y v => rfl, trivial⟩
      · refine ⟨?_, ?_, ?_, ?_, ?_, ?_, ?_, ?_, ?_, ?_, ?_, ?_, ?_, ?_, ?_, ?_, ?_, ?_, ?_, ?_, ?_, ?_, ?_, trivial⟩
        · intro y w' hS hx hd K hK
          refine ⟨rfl, ?_⟩
          unfold rtA at hK ⊢
          go_wp2
          exact hK (.string s) w' hS rfl (fun _ _ _ h => h)
        · intro y w' hS hx hd K hK
          refine ⟨rfl, ?_⟩
          unfold rtA at hK ⊢
          go_wp2
          exact hK (.slice (some a) N c) w' hS rfl (fun _ _ _ h => h)
        · intro y w' hS hx hd K hK
          refine ⟨rfl, ?_⟩
          unfold rtA at hK ⊢
          go_wp2
          exact hK (.int .i64 (k : Int)) w' hS rfl (fun _ _ _ h => h)
        · intro y w' hS hx hd K hK
          have d0 : y 1 = .slice (some a) N c := by first | exact hd _ List.mem_cons_self | exact hd _ (List.mem_cons_of_mem _ List.mem_cons_self) | exact hd _ (List.mem_cons_of_mem _ (List.mem_cons_of_mem _ List.mem_cons_self)) | exact hd _ (List.mem_cons_of_mem _ (List.mem_cons_of_mem _ (List.mem_cons_of_mem _ List.mem_cons_self))) | exact hd _ (List.mem_cons_of_mem _ (List.mem_cons_of_mem _ (List.mem_cons_of_mem _ (List.mem_cons_of_mem _ List.mem_cons_self))))
          have d1 : y 2 = .int .i64 (k : Int) := by first | exact hd _ List.mem_cons_self | exact hd _ (List.mem_cons_of_mem _ List.mem_cons_self) | exact hd _ (List.mem_cons_of_mem _ (List.mem_cons_of_mem _ List.mem_cons_self)) | exact hd _ (List.mem_cons_of_mem _ (List.mem_cons_of_mem _ (List.mem_cons_of_mem _ List.mem_cons_self))) | exact hd _ (List.mem_cons_of_mem _ (List.mem_cons_of_mem _ (List.mem_cons_of_mem _ (List.mem_cons_of_mem _ List.mem_cons_self))))
          refine ⟨rfl, ?_⟩
          unfold rtA at hK ⊢
          simp only [d0, d1] at hK ⊢
          go_wp2
          exact hK (.pointer (some (a.add k))) w' hS rfl (fun _ _ _ h => h)
        · intro y w' hS hx hd K hK
          have d0 : y 3 = .pointer (some (a.add k)) := by first | exact hd _ List.mem_cons_self | exact hd _ (List.mem_cons_of_mem _ List.mem_cons_self) | exact hd _ (List.mem_cons_of_mem _ (List.mem_cons_of_mem _ List.mem_cons_self)) | exact hd _ (List.mem_cons_of_mem _ (List.mem_cons_of_mem _ (List.mem_cons_of_mem _ List.mem_cons_self))) | exact hd _ (List.mem_cons_of_mem _ (List.mem_cons_of_mem _ (List.mem_cons_of_mem _ (List.mem_cons_of_mem _ List.mem_cons_self))))
          refine ⟨rfl, ?_⟩
          unfold rtA at hK ⊢
          simp only [d0] at hK ⊢
          have z := (hS.cell (World.block_lt_of_cell? _ _ HC6.out)).trans HC6.out
          go_wp2
          exact hK (.int .i64 (j : Int)) w' hS rfl (fun _ _ _ h => h)
        · intro y w' hS hx hd K hK
          have d0 : y 4 = .int .i64 (j : Int) := by first | exact hd _ List.mem_cons_self | exact hd _ (List.mem_cons_of_mem _ List.mem_cons_self) | exact hd _ (List.mem_cons_of_mem _ (List.mem_cons_of_mem _ List.mem_cons_self)) | exact hd _ (List.mem_cons_of_mem _ (List.mem_cons_of_mem _ (List.mem_cons_of_mem _ List.mem_cons_self))) | exact hd _ (List.mem_cons_of_mem _ (List.mem_cons_of_mem _ (List.mem_cons_of_mem _ (List.mem_cons_of_mem _ List.mem_cons_self))))
          refine ⟨rfl, ?_⟩
          unfold rtA at hK ⊢
          simp only [d0] at hK ⊢
          go_wp2_with fail
          refine (r3Int_any (j : Int) _ (by omega) (by omega)).mono ?_
          rintro e w2 ⟨rfl, hb2⟩
          exact hK (.string (⟨(num (j : Int)).toArray⟩ : ByteArray)) w2 (hS.trans (hb2.mono hS.size)) rfl (fun _ _ _ h => h)
        · intro y w' hS hx hd K hK
          refine ⟨rfl, ?_⟩
          unfold rtA at hK ⊢
          go_wp2
          exact hK (.pointer (some ⟨bx, 0, none⟩)) w' hS rfl (fun _ _ _ h => h)
        · intro y w' hS hx hd K hK
          have d0 : y 6 = .pointer (some ⟨bx, 0, none⟩) := by first | exact hd _ List.mem_cons_self | exact hd _ (List.mem_cons_of_mem _ List.mem_cons_self) | exact hd _ (List.mem_cons_of_mem _ (List.mem_cons_of_mem _ List.mem_cons_self)) | exact hd _ (List.mem_cons_of_mem _ (List.mem_cons_of_mem _ (List.mem_cons_of_mem _ List.mem_cons_self))) | exact hd _ (List.mem_cons_of_mem _ (List.mem_cons_of_mem _ (List.mem_cons_of_mem _ (List.mem_cons_of_mem _ List.mem_cons_self))))
          refine ⟨rfl, ?_⟩
          unfold rtA at hK ⊢
          simp only [d0] at hK ⊢
          have z := obj_cell (obj_below HX6.out hS) 0
          simp only [List.getElem?_toArray, List.getElem?_cons_zero, List.getElem?_cons_succ] at z
          go_wp2
          exact hK (.int .i64 x.seg) w' hS rfl (fun _ _ _ h => h)
        · intro y w' hS hx hd K hK
          have d0 : y 7 = .int .i64 x.seg := by first | exact hd _ List.mem_cons_self | exact hd _ (List.mem_cons_of_mem _ List.mem_cons_self) | exact hd _ (List.mem_cons_of_mem _ (List.mem_cons_of_mem _ List.mem_cons_self)) | exact hd _ (List.mem_cons_of_mem _ (List.mem_cons_of_mem _ (List.mem_cons_of_mem _ List.mem_cons_self))) | exact hd _ (List.mem_cons_of_mem _ (List.mem_cons_of_mem _ (List.mem_cons_of_mem _ (List.mem_cons_of_mem _ List.mem_cons_self))))
          refine ⟨rfl, ?_⟩
          unfold rtA at hK ⊢
          simp only [d0] at hK ⊢
          go_wp2_with fail
          refine (r3Int_any x.seg _ HRG.out.1.1 HRG.out.1.2).mono ?_
          rintro e w2 ⟨rfl, hb2⟩
          exact hK (.string (⟨(num x.seg).toArray⟩ : ByteArray)) w2 (hS.trans (hb2.mono hS.size)) rfl (fun _ _ _ h => h)
        · intro y w' hS hx hd K hK
          have d0 : y 5 = .string (⟨(num (j : Int)).toArray⟩ : ByteArray) := by first | exact hd _ List.mem_cons_self | exact hd _ (List.mem_cons_of_mem _ List.mem_cons_self) | exact hd _ (List.mem_cons_of_mem _ (List.mem_cons_of_mem _ List.mem_cons_self)) | exact hd _ (List.mem_cons_of_mem _ (List.mem_cons_of_mem _ (List.mem_cons_of_mem _ List.mem_cons_self))) | exact hd _ (List.mem_cons_of_mem _ (List.mem_cons_of_mem _ (List.mem_cons_of_mem _ (List.mem_cons_of_mem _ List.mem_cons_self))))
          have d1 : y 8 = .string (⟨(num x.seg).toArray⟩ : ByteArray) := by first | exact hd _ List.mem_cons_self | exact hd _ (List.mem_cons_of_mem _ List.mem_cons_self) | exact hd _ (List.mem_cons_of_mem _ (List.mem_cons_of_mem _ List.mem_cons_self)) | exact hd _ (List.mem_cons_of_mem _ (List.mem_cons_of_mem _ (List.mem_cons_of_mem _ List.mem_cons_self))) | exact hd _ (List.mem_cons_of_mem _ (List.mem_cons_of_mem _ (List.mem_cons_of_mem _ (List.mem_cons_of_mem _ List.mem_cons_self))))
          refine ⟨rfl, ?_⟩
          unfold rtA at hK ⊢
          simp only [d0, d1] at hK ⊢
          have z := HZ.out.1
          go_wp2
          exact hK (.string ((⟨(num (j : Int)).toArray⟩ : ByteArray) ++ (⟨(num x.seg).toArray⟩ : ByteArray))) w' hS rfl (fun _ _ _ h => h)
        · intro y w' hS hx hd K hK
          refine ⟨rfl, ?_⟩
          unfold rtA at hK ⊢
          go_wp2
          exact hK (.pointer (some ⟨bx, 1, none⟩)) w' hS rfl (fun _ _ _ h => h)
        · intro y w' hS hx hd K hK
          have d0 : y 10 = .pointer (some ⟨bx, 1, none⟩) := by first | exact hd _ List.mem_cons_self | exact hd _ (List.mem_cons_of_mem _ List.mem_cons_self) | exact hd _ (List.mem_cons_of_mem _ (List.mem_cons_of_mem _ List.mem_cons_self)) | exact hd _ (List.mem_cons_of_mem _ (List.mem_cons_of_mem _ (List.mem_cons_of_mem _ List.mem_cons_self))) | exact hd _ (List.mem_cons_of_mem _ (List.mem_cons_of_mem _ (List.mem_cons_of_mem _ (List.mem_cons_of_mem _ List.mem_cons_self))))
          refine ⟨rfl, ?_⟩
          unfold rtA at hK ⊢
          simp only [d0] at hK ⊢
          have z := obj_cell (obj_below HX6.out hS) 1
          simp only [List.getElem?_toArray, List.getElem?_cons_zero, List.getElem?_cons_succ] at z
          go_wp2
          exact hK (.int .i64 x.frm) w' hS rfl (fun _ _ _ h => h)
        · intro y w' hS hx hd K hK
          have d0 : y 11 = .int .i64 x.frm := by first | exact hd _ List.mem_cons_self | exact hd _ (List.mem_cons_of_mem _ List.mem_cons_self) | exact hd _ (List.mem_cons_of_mem _ (List.mem_cons_of_mem _ List.mem_cons_self)) | exact hd _ (List.mem_cons_of_mem _ (List.mem_cons_of_mem _ (List.mem_cons_of_mem _ List.mem_cons_self))) | exact hd _ (List.mem_cons_of_mem _ (List.mem_cons_of_mem _ (List.mem_cons_of_mem _ (List.mem_cons_of_mem _ List.mem_cons_self))))
          refine ⟨rfl, ?_⟩
          unfold rtA at hK ⊢
          simp only [d0] at hK ⊢
          go_wp2_with fail
          refine (r3Int_any x.frm _ HRG.out.2.1.1 HRG.out.2.1.2).mono ?_
          rintro e w2 ⟨rfl, hb2⟩
          exact hK (.string (⟨(num x.frm).toArray⟩ : ByteArray)) w2 (hS.trans (hb2.mono hS.size)) rfl (fun _ _ _ h => h)
        · intro y w' hS hx hd K hK
          have d0 : y 9 = .string ((⟨(num (j : Int)).toArray⟩ : ByteArray) ++ (⟨(num x.seg).toArray⟩ : ByteArray)) := by first | exact hd _ List.mem_cons_self | exact hd _ (List.mem_cons_of_mem _ List.mem_cons_self) | exact hd _ (List.mem_cons_of_mem _ (List.mem_cons_of_mem _ List.mem_cons_self)) | exact hd _ (List.mem_cons_of_mem _ (List.mem_cons_of_mem _ (List.mem_cons_of_mem _ List.mem_cons_self))) | exact hd _ (List.mem_cons_of_mem _ (List.mem_cons_of_mem _ (List.mem_cons_of_mem _ (List.mem_cons_of_mem _ List.mem_cons_self))))
          have d1 : y 12 = .string (⟨(num x.frm).toArray⟩ : ByteArray) := by first | exact hd _ List.mem_cons_self | exact hd _ (List.mem_cons_of_mem _ List.mem_cons_self) | exact hd _ (List.mem_cons_of_mem _ (List.mem_cons_of_mem _ List.mem_cons_self)) | exact hd _ (List.mem_cons_of_mem _ (List.mem_cons_of_mem _ (List.mem_cons_of_mem _ List.mem_cons_self))) | exact hd _ (List.mem_cons_of_mem _ (List.mem_cons_of_mem _ (List.mem_cons_of_mem _ (List.mem_cons_of_mem _ List.mem_cons_self))))
          refine ⟨rfl, ?_⟩
          unfold rtA at hK ⊢
          simp only [d0, d1] at hK ⊢
          have z := HZ.out.2.1
          go_wp2
          exact hK (.string (((⟨(num (j : Int)).toArray⟩ : ByteArray) ++ (⟨(num x.seg).toArray⟩ : ByteArray)) ++ (⟨(num x.frm).toArray⟩ : ByteArray))) w' hS rfl (fun _ _ _ h => h)
        · intro y w' hS hx hd K hK
          refine ⟨rfl, ?_⟩
          unfold rtA at hK ⊢
          go_wp2
          exact hK (.pointer (some ⟨bx, 2, none⟩)) w' hS rfl (fun _ _ _ h => h)
        · intro y w' hS hx hd K hK
          have d0 : y 14 = .pointer (some ⟨bx, 2, none⟩) := by first | exact hd _ List.mem_cons_self | exact hd _ (List.mem_cons_of_mem _ List.mem_cons_self) | exact hd _ (List.mem_cons_of_mem _ (List.mem_cons_of_mem _ List.mem_cons_self)) | exact hd _ (List.mem_cons_of_mem _ (List.mem_cons_of_mem _ (List.mem_cons_of_mem _ List.mem_cons_self))) | exact hd _ (List.mem_cons_of_mem _ (List.mem_cons_of_mem _ (List.mem_cons_of_mem _ (List.mem_cons_of_mem _ List.mem_cons_self))))
          refine ⟨rfl, ?_⟩
          unfold rtA at hK ⊢
          simp only [d0] at hK ⊢
          have z := obj_cell (obj_below HX6.out hS) 2
          simp only [List.getElem?_toArray, List.getElem?_cons_zero, List.getElem?_cons_succ] at z
          go_wp2
          exact hK (.int .i64 x.len) w' hS rfl (fun _ _ _ h => h)
        · intro y w' hS hx hd K hK
          have d0 : y 15 = .int .i64 x.len := by first | exact hd _ List.mem_cons_self | exact hd _ (List.mem_cons_of_mem _ List.mem_cons_self) | exact hd _ (List.mem_cons_of_mem _ (List.mem_cons_of_mem _ List.mem_cons_self)) | exact hd _ (List.mem_cons_of_mem _ (List.mem_cons_of_mem _ (List.mem_cons_of_mem _ List.mem_cons_self))) | exact hd _ (List.mem_cons_of_mem _ (List.mem_cons_of_mem _ (List.mem_cons_of_mem _ (List.mem_cons_of_mem _ List.mem_cons_self))))
          refine ⟨rfl, ?_⟩
          unfold rtA at hK ⊢
          simp only [d0] at hK ⊢
          go_wp2_with fail
          refine (r3Int_any x.len _ HRG.out.2.2.1.1 HRG.out.2.2.1.2).mono ?_
          rintro e w2 ⟨rfl, hb2⟩
          exact hK (.string (⟨(num x.len).toArray⟩ : ByteArray)) w2 (hS.trans (hb2.mono hS.size)) rfl (fun _ _ _ h => h)
        · intro y w' hS hx hd K hK
          have d0 : y 13 = .string (((⟨(num (j : Int)).toArray⟩ : ByteArray) ++ (⟨(num x.seg).toArray⟩ : ByteArray)) ++ (⟨(num x.frm).toArray⟩ : ByteArray)) := by first | exact hd _ List.mem_cons_self | exact hd _ (List.mem_cons_of_mem _ List.mem_cons_self) | exact hd _ (List.mem_cons_of_mem _ (List.mem_cons_of_mem _ List.mem_cons_self)) | exact hd _ (List.mem_cons_of_mem _ (List.mem_cons_of_mem _ (List.mem_cons_of_mem _ List.mem_cons_self))) | exact hd _ (List.mem_cons_of_mem _ (List.mem_cons_of_mem _ (List.mem_cons_of_mem _ (List.mem_cons_of_mem _ List.mem_cons_self))))
          have d1 : y 16 = .string (⟨(num x.len).toArray⟩ : ByteArray) := by first | exact hd _ List.mem_cons_self | exact hd _ (List.mem_cons_of_mem _ List.mem_cons_self) | exact hd _ (List.mem_cons_of_mem _ (List.mem_cons_of_mem _ List.mem_cons_self)) | exact hd _ (List.mem_cons_of_mem _ (List.mem_cons_of_mem _ (List.mem_cons_of_mem _ List.mem_cons_self))) | exact hd _ (List.mem_cons_of_mem _ (List.mem_cons_of_mem _ (List.mem_cons_of_mem _ (List.mem_cons_of_mem _ List.mem_cons_self))))
          refine ⟨rfl, ?_⟩
          unfold rtA at hK ⊢
          simp only [d0, d1] at hK ⊢
          have z := HZ.out.2.2.1
          go_wp2
          exact hK (.string ((((⟨(num (j : Int)).toArray⟩ : ByteArray) ++ (⟨(num x.seg).toArray⟩ : ByteArray)) ++ (⟨(num x.frm).toArray⟩ : ByteArray)) ++ (⟨(num x.len).toArray⟩ : ByteArray))) w' hS rfl (fun _ _ _ h => h)
        · intro y w' hS hx hd K hK
          refine ⟨rfl, ?_⟩
          unfold rtA at hK ⊢
          go_wp2
          exact hK (.pointer (some ⟨bx, 3, none⟩)) w' hS rfl (fun _ _ _ h => h)
        · intro y w' hS hx hd K hK
          have d0 : y 18 = .pointer (some ⟨bx, 3, none⟩) := by first | exact hd _ List.mem_cons_self | exact hd _ (List.mem_cons_of_mem _ List.mem_cons_self) | exact hd _ (List.mem_cons_of_mem _ (List.mem_cons_of_mem _ List.mem_cons_self)) | exact hd _ (List.mem_cons_of_mem _ (List.mem_cons_of_mem _ (List.mem_cons_of_mem _ List.mem_cons_self))) | exact hd _ (List.mem_cons_of_mem _ (List.mem_cons_of_mem _ (List.mem_cons_of_mem _ (List.mem_cons_of_mem _ List.mem_cons_self))))
          refine ⟨rfl, ?_⟩
          unfold rtA at hK ⊢
          simp only [d0] at hK ⊢
          have z := obj_cell (obj_below HX6.out hS) 3
          simp only [List.getElem?_toArray, List.getElem?_cons_zero, List.getElem?_cons_succ] at z
          go_wp2
          exact hK (.int .i64 x.ver) w' hS rfl (fun _ _ _ h => h)
        · intro y w' hS hx hd K hK
          have d0 : y 19 = .int .i64 x.ver := by first | exact hd _ List.mem_cons_self | exact hd _ (List.mem_cons_of_mem _ List.mem_cons_self) | exact hd _ (List.mem_cons_of_mem _ (List.mem_cons_of_mem _ List.mem_cons_self)) | exact hd _ (List.mem_cons_of_mem _ (List.mem_cons_of_mem _ (List.mem_cons_of_mem _ List.mem_cons_self))) | exact hd _ (List.mem_cons_of_mem _ (List.mem_cons_of_mem _ (List.mem_cons_of_mem _ (List.mem_cons_of_mem _ List.mem_cons_self))))
          refine ⟨rfl, ?_⟩
          unfold rtA at hK ⊢
          simp only [d0] at hK ⊢
          go_wp2_with fail
          refine (r3Int_any x.ver _ HRG.out.2.2.2.1 HRG.out.2.2.2.2).mono ?_
          rintro e w2 ⟨rfl, hb2⟩
          exact hK (.string (⟨(num x.ver).toArray⟩ : ByteArray)) w2 (hS.trans (hb2.mono hS.size)) rfl (fun _ _ _ h => h)
        · intro y w' hS hx hd K hK
          have d0 : y 17 = .string ((((⟨(num (j : Int)).toArray⟩ : ByteArray) ++ (⟨(num x.seg).toArray⟩ : ByteArray)) ++ (⟨(num x.frm).toArray⟩ : ByteArray)) ++ (⟨(num x.len).toArray⟩ : ByteArray)) := by first | exact hd _ List.mem_cons_self | exact hd _ (List.mem_cons_of_mem _ List.mem_cons_self) | exact hd _ (List.mem_cons_of_mem _ (List.mem_cons_of_mem _ List.mem_cons_self)) | exact hd _ (List.mem_cons_of_mem _ (List.mem_cons_of_mem _ (List.mem_cons_of_mem _ List.mem_cons_self))) | exact hd _ (List.mem_cons_of_mem _ (List.mem_cons_of_mem _ (List.mem_cons_of_mem _ (List.mem_cons_of_mem _ List.mem_cons_self))))
          have d1 : y 20 = .string (⟨(num x.ver).toArray⟩ : ByteArray) := by first | exact hd _ List.mem_cons_self | exact hd _ (List.mem_cons_of_mem _ List.mem_cons_self) | exact hd _ (List.mem_cons_of_mem _ (List.mem_cons_of_mem _ List.mem_cons_self)) | exact hd _ (List.mem_cons_of_mem _ (List.mem_cons_of_mem _ (List.mem_cons_of_mem _ List.mem_cons_self))) | exact hd _ (List.mem_cons_of_mem _ (List.mem_cons_of_mem _ (List.mem_cons_of_mem _ (List.mem_cons_of_mem _ List.mem_cons_self))))
          refine ⟨rfl, ?_⟩
          unfold rtA at hK ⊢
          simp only [d0, d1] at hK ⊢
          have z := HZ.out.2.2.2.1
          go_wp2
          exact hK (.string (((((⟨(num (j : Int)).toArray⟩ : ByteArray) ++ (⟨(num x.seg).toArray⟩ : ByteArray)) ++ (⟨(num x.frm).toArray⟩ : ByteArray)) ++ (⟨(num x.len).toArray⟩ : ByteArray)) ++ (⟨(num x.ver).toArray⟩ : ByteArray))) w' hS rfl (fun _ _ _ h => h)
        · intro y w' hS hx hd K hK
          have d0 : y 0 = .string s := by first | exact hd _ List.mem_cons_self | exact hd _ (List.mem_cons_of_mem _ List.mem_cons_self) | exact hd _ (List.mem_cons_of_mem _ (List.mem_cons_of_mem _ List.mem_cons_self)) | exact hd _ (List.mem_cons_of_mem _ (List.mem_cons_of_mem _ (List.mem_cons_of_mem _ List.mem_cons_self))) | exact hd _ (List.mem_cons_of_mem _ (List.mem_cons_of_mem _ (List.mem_cons_of_mem _ (List.mem_cons_of_mem _ List.mem_cons_self))))
          have d1 : y 21 = .string (((((⟨(num (j : Int)).toArray⟩ : ByteArray) ++ (⟨(num x.seg).toArray⟩ : ByteArray)) ++ (⟨(num x.frm).toArray⟩ : ByteArray)) ++ (⟨(num x.len).toArray⟩ : ByteArray)) ++ (⟨(num x.ver).toArray⟩ : ByteArray)) := by first | exact hd _ List.mem_cons_self | exact hd _ (List.mem_cons_of_mem _ List.mem_cons_self) | exact hd _ (List.mem_cons_of_mem _ (List.mem_cons_of_mem _ List.mem_cons_self)) | exact hd _ (List.mem_cons_of_mem _ (List.mem_cons_of_mem _ (List.mem_cons_of_mem _ List.mem_cons_self))) | exact hd _ (List.mem_cons_of_mem _ (List.mem_cons_of_mem _ (List.mem_cons_of_mem _ (List.mem_cons_of_mem _ List.mem_cons_self))))
          refine ⟨rfl, ?_⟩
          unfold rtA at hK ⊢
          simp only [d0, d1] at hK ⊢
          have z := HZ.out.2.2.2.2
          go_wp2
          exact hK (.string (s ++ (((((⟨(num (j : Int)).toArray⟩ : ByteArray) ++ (⟨(num x.seg).toArray⟩ : ByteArray)) ++ (⟨(num x.frm).toArray⟩ : ByteArray)) ++ (⟨(num x.len).toArray⟩ : ByteArray)) ++ (⟨(num x.ver).toArray⟩ : ByteArray)))) w' hS rfl (fun _ _ _ h => h)
      · intro y w' hS hv K hK
        have v22 : y 22 = .string (s ++ (((((⟨(num (j : Int)).toArray⟩ : ByteArray) ++ (⟨(num x.seg).toArray⟩ : ByteArray)) ++ (⟨(num x.frm).toArray⟩ : ByteArray)) ++ (⟨(num x.len).toArray⟩ : ByteArray)) ++ (⟨(num x.ver).toArray⟩ : ByteArray))) := hv 22 (by decide)
        refine ⟨rfl, ?_⟩
        unfold rtA
        simp only [v22]
        have hbl := hS
        have HST2 : Hid (TxtS w M l (.slice (some a) N c) w' (.string (s ++ (((((⟨(num (j : Int)).toArray⟩ : ByteArray) ++ (⟨(num x.seg).toArray⟩ : ByteArray)) ++ (⟨(num x.frm).toArray⟩ : ByteArray)) ++ (⟨(num x.len).toArray⟩ : ByteArray)) ++ (⟨(num x.ver).toArray⟩ : ByteArray)))) (.int .i64 ((k + 1 : Nat) : Int))) := hide ⟨k + 1, rfl, hkl, by rw [HCAT.out], HR6.out.below hbl, HI6.out.below hbl, HB6.out.trans (hbl.mono HB6.out.size)⟩
        clear hv hS hbl
        go_wp2
        go_roundw
        case rel => exact HST2.out
        case measure => simp [intOf]; omega
    · obtain rfl : k = N := by omega
      have ht : bodyB (l.take k) = bodyB l := by rw [List.take_of_length_le (by have := HN.out; omega)]
      rw [ht, ← HN.out]
      have HT := hide ht
      obtain ⟨o, ho⟩ : ∃ o : ByteArray, o = ⟨(num (k : Int) ++ bodyB l).toArray⟩ := ⟨_, rfl⟩
      rw [← ho]
      have HO := hide ho
      clear ho ht
      go_wp2
      go_ret
      exact ⟨by rw [← HN.out, ← HO.out]; rfl, HB.out⟩
end Go.Proofs.Ytljmaicobafgkaa
end
