/- SegmentBack: the walk. -/
import Derived.Test.YtljmaicobafgkaaSeg21
namespace Go.Proofs.Ytljmaicobafgkaa
open Go.RowKit

def RestS (w0 : World) (n : Nat) (w : World) (i : Value) : Prop := ∃ k : Nat, i = .int .i64 k ∧ k ≤ n ∧ Below w0.heap.size w0 w
set_option maxHeartbeats 8000000 in
set_option maxRecDepth 1000000 in
theorem walk_segmentBack (sz : Int) (v : Value) (l : List Pc) (w : World) (_hz : (Lit.int .i64 sz).wf = true) (h : PcArg w v l) (hwf : ∀ x ∈ l, x.wf) :
    Calls Try.prog 12 #[.int .i64 sz, v] w fun e w' => e = .returned (.bool true) ∧ Below w.heap.size w w' := by
  have hlen : l.length ≤ 9223372036854775807 := Nat.le_trans h.len (by decide)
  obtain ⟨A, c, hv⟩ := h.slice
  have H := hide h
  have HW := hide hwf
  subst hv
  clear h hwf
  have hsz0 : 16 ≤ szOf sz := by unfold szOf; omega
  have hsz1 : szOf sz ≤ 65536 := by unfold szOf; omega
  go_enter Try.func12, Try.ntmps12
  go_wp2_with fail
  refine (few_any _ l _ H.out HW.out).mono ?_
  rintro e w1 ⟨hres, hb1⟩
  have HB1 := hide hb1
  have hz1 := hb1.size
  clear hb1
  rcases hres with rfl | ⟨rfl, h50, _⟩
  · go_wp2_with fail
    refine (awake31 _).mono ?_
    rintro e w2 ⟨rfl, hb2⟩
    go_wp2
    go_ret
    exact ⟨rfl, HB1.out.trans (hb2.mono hz1)⟩
  · go_wp2_with fail
    refine (newSeg_any sz _).mono ?_
    rintro e w2 ⟨rfl, hs2, hb2⟩
    have HS2 : Hid (BackS w w1.heap.size (szOf sz) l w2 (.slice none 0 0) (.slice none 0 0) (.int .i64 0)) := hide ⟨0, [], _, rfl, Nat.zero_le _, Nat.le_refl _, hs2, SegInv.nil _, World.ownsRow_nil _ _ _ _, World.ownsRow_nil _ _ _ _, (fun _ h => by cases h), HB1.out.trans (hb2.mono hz1), hz1⟩
    clear hs2 hb2
    go_wp2_with fail
    go_loopw [6, 7, 8] (fun inV atV i wr => BackS w w1.heap.size (szOf sz) l wr inV atV i) (fun _ _ i _ => l.length - (intOf i).toNat)
    case atStart => exact HS2.out
    case round =>
      obtain ⟨k, l', lv, rfl, hk, hlk, hS, hI, hIn, hAt, hne, hB, hg⟩ := hrel
      obtain ⟨A1, m1, rfl⟩ := row_slice hIn
      obtain ⟨A2, m2, rfl⟩ := row_slice hAt
      have HS := hide hS
      have HI := hide hI
      have HIN := hide hIn
      have HAT := hide hAt
      have HNE := hide hne
      have HB := hide hB
      clear hS hI hB hIn hAt hne
      rcases Nat.lt_or_ge k l.length with hkl | hkl
      · obtain ⟨a, cap, hv, hc1, hc2, c0, c1, c2, c3⟩ := H.out.cells hkl
        cases hv
        obtain ⟨p, hp⟩ : ∃ p, p = l[k] := ⟨_, rfl⟩
        rw [← hp] at c0 c1 c2 c3
        have C0 := hide c0
        have C1 := hide c1
        have C2 := hide c2
        have C3 := hide c3
        have HZN := hide (show w.heap.size ≤ wr.heap.size from HB.out.size)
        have HN : Hid (∀ j, lv.ownBlock = some j → j < wr.heap.size) := hide (fun j hj => by
          obtain ⟨_, h1⟩ := sg_own HS.out hj
          exact obj_lt h1)
        clear c0 c1 c2 c3 hp
        go_wp2_with fail
        refine wp_region_d (backA sz (.slice (some a) l.length c) w1.heap.size (.slice A1 l'.length m1) (.slice A2 (entsAt 0 l').length m2) k l.length (fun j => if j = 27 then u27 else if j = 28 then u28 else [u54, u55, u56, u57, u58, u59, u60, u61, u62, u63, u64, u65, u66].getD (j - 54) undef)) (fun j => if j = 25 then u9 else if j = 27 then u10 else if j = 22 then u29 else if j = 23 then u52 else if j = 24 then u53 else [u30, u31, u32, u33, u34, u35, u36, u37, u38, u39, u40, u41, u42, u43, u44, u45, u46, u47, u48, u49, u50, u51].getD j undef)
          (BkS w wr.heap.size w1.heap.size (szOf sz) l' p lv (.slice A1 l'.length m1) (.slice A2 (entsAt 0 l').length m2)) (BkV w1.heap.size k a l.length c p wr.heap.size (szOf sz) l') rfl (by kernel_rfl) rfl
          ⟨lv, .inl ⟨rfl, rfl, HS.out⟩, HIN.out, HAT.out, HNE.out, (fun h => by cases h), (fun h => by cases h), ⟨HB.out.os, HB.out.tape, HB.out.output, HB.out.size, HB.out.block⟩, Nat.le_refl _⟩ ?_ ?_ ?_
        · exact ⟨fun x v => rfl, fun x v => rfl, fun x v => rfl, fun x v => rfl, fun x v => rfl, fun x v => rfl, fun x v => rfl, fun x v => rfl, fun x v => rfl, fun x v => rfl, fun x v => rfl, fun x v => rfl, fun x v => rfl, fun x v => rfl, fun x v => rfl, fun x v => rfl, fun x v => rfl, fun x v => rfl, fun x v => rfl, fun x v => rfl, fun x v => rfl, fun x v => rfl, fun x v => rfl, fun x v => rfl, fun x v => rfl, fun x v => rfl, fun x v => rfl, fun x v => rfl, trivial⟩
        · refine ⟨?_, ?_, ?_, ?_, ?_, ?_, ?_, ?_, ?_, ?_, ?_, ?_, ?_, ?_, ?_, ?_, ?_, ?_, ?_, ?_, ?_, ?_, ?_, ?_, ?_, ?_, ?_, ?_, trivial⟩
          · intro d x w' hS hdi hd hdd K hK
            refine ⟨rfl, ?_⟩
            unfold backA at hK ⊢
            go_wp2
            exact hK (.pointer (some ⟨w1.heap.size, 0, none⟩)) w' hS rfl (fun _ _ _ h => h)
          · intro d x w' hS hdi hd hdd K hK
            refine ⟨rfl, ?_⟩
            unfold backA at hK ⊢
            go_wp2
            exact hK (.slice (some a) l.length c) w' hS rfl (fun _ _ _ h => h)
          · intro d x w' hS hdi hd hdd K hK
            refine ⟨rfl, ?_⟩
            unfold backA at hK ⊢
            go_wp2
            exact hK (.int .i64 (k : Int)) w' hS rfl (fun _ _ _ h => h)
          · intro d x w' hS hdi hd hdd K hK
            have d0 : x 1 = .slice (some a) l.length c := by first | exact hd _ List.mem_cons_self | exact hd _ (List.mem_cons_of_mem _ List.mem_cons_self) | exact hd _ (List.mem_cons_of_mem _ (List.mem_cons_of_mem _ List.mem_cons_self)) | exact hd _ (List.mem_cons_of_mem _ (List.mem_cons_of_mem _ (List.mem_cons_of_mem _ List.mem_cons_self))) | exact hd _ (List.mem_cons_of_mem _ (List.mem_cons_of_mem _ (List.mem_cons_of_mem _ (List.mem_cons_of_mem _ List.mem_cons_self))))
            have d1 : x 2 = .int .i64 (k : Int) := by first | exact hd _ List.mem_cons_self | exact hd _ (List.mem_cons_of_mem _ List.mem_cons_self) | exact hd _ (List.mem_cons_of_mem _ (List.mem_cons_of_mem _ List.mem_cons_self)) | exact hd _ (List.mem_cons_of_mem _ (List.mem_cons_of_mem _ (List.mem_cons_of_mem _ List.mem_cons_self))) | exact hd _ (List.mem_cons_of_mem _ (List.mem_cons_of_mem _ (List.mem_cons_of_mem _ (List.mem_cons_of_mem _ List.mem_cons_self))))
            refine ⟨rfl, ?_⟩
            unfold backA at hK ⊢
            simp only [d0, d1] at hK ⊢
            go_wp2
            exact hK (.pointer (some (a.add (k * 4)))) w' hS rfl (fun _ _ _ h => h)
          · intro d x w' hS hdi hd hdd K hK
            have d0 : x 3 = .pointer (some (a.add (k * 4))) := by first | exact hd _ List.mem_cons_self | exact hd _ (List.mem_cons_of_mem _ List.mem_cons_self) | exact hd _ (List.mem_cons_of_mem _ (List.mem_cons_of_mem _ List.mem_cons_self)) | exact hd _ (List.mem_cons_of_mem _ (List.mem_cons_of_mem _ (List.mem_cons_of_mem _ List.mem_cons_self))) | exact hd _ (List.mem_cons_of_mem _ (List.mem_cons_of_mem _ (List.mem_cons_of_mem _ (List.mem_cons_of_mem _ List.mem_cons_self))))
            refine ⟨rfl, ?_⟩
            unfold backA at hK ⊢
            simp only [d0] at hK ⊢
            go_wp2
            exact hK (.pointer (some (a.add (k * 4)))) w' hS rfl (fun _ _ _ h => h)
          · intro d x w' hS hdi hd hdd K hK
            have d0 : x 4 = .pointer (some (a.add (k * 4))) := by first | exact hd _ List.mem_cons_self | exact hd _ (List.mem_cons_of_mem _ List.mem_cons_self) | exact hd _ (List.mem_cons_of_mem _ (List.mem_cons_of_mem _ List.mem_cons_self)) | exact hd _ (List.mem_cons_of_mem _ (List.mem_cons_of_mem _ (List.mem_cons_of_mem _ List.mem_cons_self))) | exact hd _ (List.mem_cons_of_mem _ (List.mem_cons_of_mem _ (List.mem_cons_of_mem _ (List.mem_cons_of_mem _ List.mem_cons_self))))
            refine ⟨rfl, ?_⟩
            unfold backA at hK ⊢
            simp only [d0] at hK ⊢
            have z := (hS.low.cell (World.block_lt_of_cell? _ _ C0.out)).trans C0.out
            go_wp2
            exact hK (.int .i64 p.kind) w' hS rfl (fun _ _ _ h => h)
          · intro d x w' hS hdi hd hdd K hK
            refine ⟨rfl, ?_⟩
            unfold backA at hK ⊢
            go_wp2
            exact hK (.slice (some a) l.length c) w' hS rfl (fun _ _ _ h => h)
          · intro d x w' hS hdi hd hdd K hK
            refine ⟨rfl, ?_⟩
            unfold backA at hK ⊢
            go_wp2
            exact hK (.int .i64 (k : Int)) w' hS rfl (fun _ _ _ h => h)
          · intro d x w' hS hdi hd hdd K hK
            have d0 : x 6 = .slice (some a) l.length c := by first | exact hd _ List.mem_cons_self | exact hd _ (List.mem_cons_of_mem _ List.mem_cons_self) | exact hd _ (List.mem_cons_of_mem _ (List.mem_cons_of_mem _ List.mem_cons_self)) | exact hd _ (List.mem_cons_of_mem _ (List.mem_cons_of_mem _ (List.mem_cons_of_mem _ List.mem_cons_self))) | exact hd _ (List.mem_cons_of_mem _ (List.mem_cons_of_mem _ (List.mem_cons_of_mem _ (List.mem_cons_of_mem _ List.mem_cons_self))))
            have d1 : x 7 = .int .i64 (k : Int) := by first | exact hd _ List.mem_cons_self | exact hd _ (List.mem_cons_of_mem _ List.mem_cons_self) | exact hd _ (List.mem_cons_of_mem _ (List.mem_cons_of_mem _ List.mem_cons_self)) | exact hd _ (List.mem_cons_of_mem _ (List.mem_cons_of_mem _ (List.mem_cons_of_mem _ List.mem_cons_self))) | exact hd _ (List.mem_cons_of_mem _ (List.mem_cons_of_mem _ (List.mem_cons_of_mem _ (List.mem_cons_of_mem _ List.mem_cons_self))))
            refine ⟨rfl, ?_⟩
            unfold backA at hK ⊢
            simp only [d0, d1] at hK ⊢
            go_wp2
            exact hK (.pointer (some (a.add (k * 4)))) w' hS rfl (fun _ _ _ h => h)
          · intro d x w' hS hdi hd hdd K hK
            have d0 : x 8 = .pointer (some (a.add (k * 4))) := by first | exact hd _ List.mem_cons_self | exact hd _ (List.mem_cons_of_mem _ List.mem_cons_self) | exact hd _ (List.mem_cons_of_mem _ (List.mem_cons_of_mem _ List.mem_cons_self)) | exact hd _ (List.mem_cons_of_mem _ (List.mem_cons_of_mem _ (List.mem_cons_of_mem _ List.mem_cons_self))) | exact hd _ (List.mem_cons_of_mem _ (List.mem_cons_of_mem _ (List.mem_cons_of_mem _ (List.mem_cons_of_mem _ List.mem_cons_self))))
            refine ⟨rfl, ?_⟩
            unfold backA at hK ⊢
            simp only [d0] at hK ⊢
            go_wp2
            exact hK (.pointer (some ⟨(a.add (k * 4)).block, (a.add (k * 4)).off + 1, none⟩)) w' hS rfl (fun _ _ _ h => h)
          · intro d x w' hS hdi hd hdd K hK
            have d0 : x 9 = .pointer (some ⟨(a.add (k * 4)).block, (a.add (k * 4)).off + 1, none⟩) := by first | exact hd _ List.mem_cons_self | exact hd _ (List.mem_cons_of_mem _ List.mem_cons_self) | exact hd _ (List.mem_cons_of_mem _ (List.mem_cons_of_mem _ List.mem_cons_self)) | exact hd _ (List.mem_cons_of_mem _ (List.mem_cons_of_mem _ (List.mem_cons_of_mem _ List.mem_cons_self))) | exact hd _ (List.mem_cons_of_mem _ (List.mem_cons_of_mem _ (List.mem_cons_of_mem _ (List.mem_cons_of_mem _ List.mem_cons_self))))
            refine ⟨rfl, ?_⟩
            unfold backA at hK ⊢
            simp only [d0] at hK ⊢
            have z := (hS.low.cell (World.block_lt_of_cell? _ _ C1.out)).trans C1.out
            go_wp2
            exact hK (.int .i64 p.inode) w' hS rfl (fun _ _ _ h => h)
          · intro d x w' hS hdi hd hdd K hK
            refine ⟨rfl, ?_⟩
            unfold backA at hK ⊢
            go_wp2
            exact hK (.slice (some a) l.length c) w' hS rfl (fun _ _ _ h => h)
          · intro d x w' hS hdi hd hdd K hK
            refine ⟨rfl, ?_⟩
            unfold backA at hK ⊢
            go_wp2
            exact hK (.int .i64 (k : Int)) w' hS rfl (fun _ _ _ h => h)
          · intro d x w' hS hdi hd hdd K hK
            have d0 : x 11 = .slice (some a) l.length c := by first | exact hd _ List.mem_cons_self | exact hd _ (List.mem_cons_of_mem _ List.mem_cons_self) | exact hd _ (List.mem_cons_of_mem _ (List.mem_cons_of_mem _ List.mem_cons_self)) | exact hd _ (List.mem_cons_of_mem _ (List.mem_cons_of_mem _ (List.mem_cons_of_mem _ List.mem_cons_self))) | exact hd _ (List.mem_cons_of_mem _ (List.mem_cons_of_mem _ (List.mem_cons_of_mem _ (List.mem_cons_of_mem _ List.mem_cons_self))))
            have d1 : x 12 = .int .i64 (k : Int) := by first | exact hd _ List.mem_cons_self | exact hd _ (List.mem_cons_of_mem _ List.mem_cons_self) | exact hd _ (List.mem_cons_of_mem _ (List.mem_cons_of_mem _ List.mem_cons_self)) | exact hd _ (List.mem_cons_of_mem _ (List.mem_cons_of_mem _ (List.mem_cons_of_mem _ List.mem_cons_self))) | exact hd _ (List.mem_cons_of_mem _ (List.mem_cons_of_mem _ (List.mem_cons_of_mem _ (List.mem_cons_of_mem _ List.mem_cons_self))))
            refine ⟨rfl, ?_⟩
            unfold backA at hK ⊢
            simp only [d0, d1] at hK ⊢
            go_wp2
            exact hK (.pointer (some (a.add (k * 4)))) w' hS rfl (fun _ _ _ h => h)
          · intro d x w' hS hdi hd hdd K hK
            have d0 : x 13 = .pointer (some (a.add (k * 4))) := by first | exact hd _ List.mem_cons_self | exact hd _ (List.mem_cons_of_mem _ List.mem_cons_self) | exact hd _ (List.mem_cons_of_mem _ (List.mem_cons_of_mem _ List.mem_cons_self)) | exact hd _ (List.mem_cons_of_mem _ (List.mem_cons_of_mem _ (List.mem_cons_of_mem _ List.mem_cons_self))) | exact hd _ (List.mem_cons_of_mem _ (List.mem_cons_of_mem _ (List.mem_cons_of_mem _ (List.mem_cons_of_mem _ List.mem_cons_self))))
            refine ⟨rfl, ?_⟩
            unfold backA at hK ⊢
            simp only [d0] at hK ⊢
            go_wp2
            exact hK (.pointer (some ⟨(a.add (k * 4)).block, (a.add (k * 4)).off + 2, none⟩)) w' hS rfl (fun _ _ _ h => h)
          · intro d x w' hS hdi hd hdd K hK
            have d0 : x 14 = .pointer (some ⟨(a.add (k * 4)).block, (a.add (k * 4)).off + 2, none⟩) := by first | exact hd _ List.mem_cons_self | exact hd _ (List.mem_cons_of_mem _ List.mem_cons_self) | exact hd _ (List.mem_cons_of_mem _ (List.mem_cons_of_mem _ List.mem_cons_self)) | exact hd _ (List.mem_cons_of_mem _ (List.mem_cons_of_mem _ (List.mem_cons_of_mem _ List.mem_cons_self))) | exact hd _ (List.mem_cons_of_mem _ (List.mem_cons_of_mem _ (List.mem_cons_of_mem _ (List.mem_cons_of_mem _ List.mem_cons_self))))
            refine ⟨rfl, ?_⟩
            unfold backA at hK ⊢
            simp only [d0] at hK ⊢
            have z := (hS.low.cell (World.block_lt_of_cell? _ _ C2.out)).trans C2.out
            go_wp2
            exact hK (.int .i64 p.block) w' hS rfl (fun _ _ _ h => h)
          · intro d x w' hS hdi hd hdd K hK
            refine ⟨rfl, ?_⟩
            unfold backA at hK ⊢
            go_wp2
            exact hK (.slice (some a) l.length c) w' hS rfl (fun _ _ _ h => h)
          · intro d x w' hS hdi hd hdd K hK
            refine ⟨rfl, ?_⟩
            unfold backA at hK ⊢
            go_wp2
            exact hK (.int .i64 (k : Int)) w' hS rfl (fun _ _ _ h => h)
          · intro d x w' hS hdi hd hdd K hK
            have d0 : x 16 = .slice (some a) l.length c := by first | exact hd _ List.mem_cons_self | exact hd _ (List.mem_cons_of_mem _ List.mem_cons_self) | exact hd _ (List.mem_cons_of_mem _ (List.mem_cons_of_mem _ List.mem_cons_self)) | exact hd _ (List.mem_cons_of_mem _ (List.mem_cons_of_mem _ (List.mem_cons_of_mem _ List.mem_cons_self))) | exact hd _ (List.mem_cons_of_mem _ (List.mem_cons_of_mem _ (List.mem_cons_of_mem _ (List.mem_cons_of_mem _ List.mem_cons_self))))
            have d1 : x 17 = .int .i64 (k : Int) := by first | exact hd _ List.mem_cons_self | exact hd _ (List.mem_cons_of_mem _ List.mem_cons_self) | exact hd _ (List.mem_cons_of_mem _ (List.mem_cons_of_mem _ List.mem_cons_self)) | exact hd _ (List.mem_cons_of_mem _ (List.mem_cons_of_mem _ (List.mem_cons_of_mem _ List.mem_cons_self))) | exact hd _ (List.mem_cons_of_mem _ (List.mem_cons_of_mem _ (List.mem_cons_of_mem _ (List.mem_cons_of_mem _ List.mem_cons_self))))
            refine ⟨rfl, ?_⟩
            unfold backA at hK ⊢
            simp only [d0, d1] at hK ⊢
            go_wp2
            exact hK (.pointer (some (a.add (k * 4)))) w' hS rfl (fun _ _ _ h => h)
          · intro d x w' hS hdi hd hdd K hK
            have d0 : x 18 = .pointer (some (a.add (k * 4))) := by first | exact hd _ List.mem_cons_self | exact hd _ (List.mem_cons_of_mem _ List.mem_cons_self) | exact hd _ (List.mem_cons_of_mem _ (List.mem_cons_of_mem _ List.mem_cons_self)) | exact hd _ (List.mem_cons_of_mem _ (List.mem_cons_of_mem _ (List.mem_cons_of_mem _ List.mem_cons_self))) | exact hd _ (List.mem_cons_of_mem _ (List.mem_cons_of_mem _ (List.mem_cons_of_mem _ (List.mem_cons_of_mem _ List.mem_cons_self))))
            refine ⟨rfl, ?_⟩
            unfold backA at hK ⊢
            simp only [d0] at hK ⊢
            go_wp2
            exact hK (.pointer (some ⟨(a.add (k * 4)).block, (a.add (k * 4)).off + 3, none⟩)) w' hS rfl (fun _ _ _ h => h)
          · intro d x w' hS hdi hd hdd K hK
            have d0 : x 19 = .pointer (some ⟨(a.add (k * 4)).block, (a.add (k * 4)).off + 3, none⟩) := by first | exact hd _ List.mem_cons_self | exact hd _ (List.mem_cons_of_mem _ List.mem_cons_self) | exact hd _ (List.mem_cons_of_mem _ (List.mem_cons_of_mem _ List.mem_cons_self)) | exact hd _ (List.mem_cons_of_mem _ (List.mem_cons_of_mem _ (List.mem_cons_of_mem _ List.mem_cons_self))) | exact hd _ (List.mem_cons_of_mem _ (List.mem_cons_of_mem _ (List.mem_cons_of_mem _ (List.mem_cons_of_mem _ List.mem_cons_self))))
            refine ⟨rfl, ?_⟩
            unfold backA at hK ⊢
            simp only [d0] at hK ⊢
            have z := (hS.low.cell (World.block_lt_of_cell? _ _ C3.out)).trans C3.out
            go_wp2
            exact hK (.string p.body) w' hS rfl (fun _ _ _ h => h)
          · intro d x w' hS hdi hd hdd K hK
            have d0 : x 0 = .pointer (some ⟨w1.heap.size, 0, none⟩) := by first | exact hd _ List.mem_cons_self | exact hd _ (List.mem_cons_of_mem _ List.mem_cons_self) | exact hd _ (List.mem_cons_of_mem _ (List.mem_cons_of_mem _ List.mem_cons_self)) | exact hd _ (List.mem_cons_of_mem _ (List.mem_cons_of_mem _ (List.mem_cons_of_mem _ List.mem_cons_self))) | exact hd _ (List.mem_cons_of_mem _ (List.mem_cons_of_mem _ (List.mem_cons_of_mem _ (List.mem_cons_of_mem _ List.mem_cons_self))))
            have d1 : x 5 = .int .i64 p.kind := by first | exact hd _ List.mem_cons_self | exact hd _ (List.mem_cons_of_mem _ List.mem_cons_self) | exact hd _ (List.mem_cons_of_mem _ (List.mem_cons_of_mem _ List.mem_cons_self)) | exact hd _ (List.mem_cons_of_mem _ (List.mem_cons_of_mem _ (List.mem_cons_of_mem _ List.mem_cons_self))) | exact hd _ (List.mem_cons_of_mem _ (List.mem_cons_of_mem _ (List.mem_cons_of_mem _ (List.mem_cons_of_mem _ List.mem_cons_self))))
            have d2 : x 10 = .int .i64 p.inode := by first | exact hd _ List.mem_cons_self | exact hd _ (List.mem_cons_of_mem _ List.mem_cons_self) | exact hd _ (List.mem_cons_of_mem _ (List.mem_cons_of_mem _ List.mem_cons_self)) | exact hd _ (List.mem_cons_of_mem _ (List.mem_cons_of_mem _ (List.mem_cons_of_mem _ List.mem_cons_self))) | exact hd _ (List.mem_cons_of_mem _ (List.mem_cons_of_mem _ (List.mem_cons_of_mem _ (List.mem_cons_of_mem _ List.mem_cons_self))))
            have d3 : x 15 = .int .i64 p.block := by first | exact hd _ List.mem_cons_self | exact hd _ (List.mem_cons_of_mem _ List.mem_cons_self) | exact hd _ (List.mem_cons_of_mem _ (List.mem_cons_of_mem _ List.mem_cons_self)) | exact hd _ (List.mem_cons_of_mem _ (List.mem_cons_of_mem _ (List.mem_cons_of_mem _ List.mem_cons_self))) | exact hd _ (List.mem_cons_of_mem _ (List.mem_cons_of_mem _ (List.mem_cons_of_mem _ (List.mem_cons_of_mem _ List.mem_cons_self))))
            have d4 : x 20 = .string p.body := by first | exact hd _ List.mem_cons_self | exact hd _ (List.mem_cons_of_mem _ List.mem_cons_self) | exact hd _ (List.mem_cons_of_mem _ (List.mem_cons_of_mem _ List.mem_cons_self)) | exact hd _ (List.mem_cons_of_mem _ (List.mem_cons_of_mem _ (List.mem_cons_of_mem _ List.mem_cons_self))) | exact hd _ (List.mem_cons_of_mem _ (List.mem_cons_of_mem _ (List.mem_cons_of_mem _ (List.mem_cons_of_mem _ List.mem_cons_self))))
            refine ⟨rfl, ?_⟩
            unfold backA at hK ⊢
            simp only [d0, d1, d2, d3, d4] at hK ⊢
            go_wp2_with fail
            obtain ⟨lv1, hst, hi1, ha1, hn1, h25, h26, hb, hN⟩ := hS
            have hst1 : lv1 = lv ∧ SgP w' w1.heap.size (szOf sz) l' lv1 := by
              rcases hst with ⟨_, h1, h2⟩ | ⟨h1, _⟩
              · exact ⟨h1, h2⟩
              · rw [hdi] at h1
                cases h1
            obtain ⟨rfl, hsg⟩ := hst1
            refine (addP w1.heap.size (szOf sz) l' lv1 p _ hsg HI.out hsz0 hsz1).mono ?_
            rintro e w3 ⟨rfl, lv3, hs3, hf3, hl3⟩
            exact hK (.tuple #[entV (addE (szOf sz) l' p), .int .i64 (addC (szOf sz) l' p)]) w3 (bk_add hsg hi1 ha1 hn1 h25 h26 hb hN hs3 hf3 hl3 hg hdi) rfl (fun j u _ h => BkV.add HN.out hsg hf3 h)
          · intro d x w' hS hdi hd hdd K hK
            have d0 : x 21 = .tuple #[entV (addE (szOf sz) l' p), .int .i64 (addC (szOf sz) l' p)] := by first | exact hd _ List.mem_cons_self | exact hd _ (List.mem_cons_of_mem _ List.mem_cons_self) | exact hd _ (List.mem_cons_of_mem _ (List.mem_cons_of_mem _ List.mem_cons_self)) | exact hd _ (List.mem_cons_of_mem _ (List.mem_cons_of_mem _ (List.mem_cons_of_mem _ List.mem_cons_self))) | exact hd _ (List.mem_cons_of_mem _ (List.mem_cons_of_mem _ (List.mem_cons_of_mem _ (List.mem_cons_of_mem _ List.mem_cons_self))))
            refine ⟨rfl, ?_⟩
            unfold backA at hK ⊢
            simp only [d0] at hK ⊢
            go_wp2
            exact hK (.tuple #[entV (addE (szOf sz) l' p), .int .i64 (addC (szOf sz) l' p)]) w' hS rfl (fun _ _ _ h => h)
          · intro d x w' hS hdi hd hdd K hK
            have d0 : x 22 = .tuple #[entV (addE (szOf sz) l' p), .int .i64 (addC (szOf sz) l' p)] := by first | exact hd _ List.mem_cons_self | exact hd _ (List.mem_cons_of_mem _ List.mem_cons_self) | exact hd _ (List.mem_cons_of_mem _ (List.mem_cons_of_mem _ List.mem_cons_self)) | exact hd _ (List.mem_cons_of_mem _ (List.mem_cons_of_mem _ (List.mem_cons_of_mem _ List.mem_cons_self))) | exact hd _ (List.mem_cons_of_mem _ (List.mem_cons_of_mem _ (List.mem_cons_of_mem _ (List.mem_cons_of_mem _ List.mem_cons_self))))
            refine ⟨rfl, ?_⟩
            unfold backA at hK ⊢
            simp only [d0] at hK ⊢
            go_wp2
            exact hK (entV (addE (szOf sz) l' p)) w' hS rfl (fun _ _ _ h => h)
          · intro d x w' hS hdi hd hdd K hK
            have d0 : x 22 = .tuple #[entV (addE (szOf sz) l' p), .int .i64 (addC (szOf sz) l' p)] := by first | exact hd _ List.mem_cons_self | exact hd _ (List.mem_cons_of_mem _ List.mem_cons_self) | exact hd _ (List.mem_cons_of_mem _ (List.mem_cons_of_mem _ List.mem_cons_self)) | exact hd _ (List.mem_cons_of_mem _ (List.mem_cons_of_mem _ (List.mem_cons_of_mem _ List.mem_cons_self))) | exact hd _ (List.mem_cons_of_mem _ (List.mem_cons_of_mem _ (List.mem_cons_of_mem _ (List.mem_cons_of_mem _ List.mem_cons_self))))
            refine ⟨rfl, ?_⟩
            unfold backA at hK ⊢
            simp only [d0] at hK ⊢
            go_wp2
            exact hK (.int .i64 (addC (szOf sz) l' p)) w' hS rfl (fun _ _ _ h => h)
          · intro d x w' hS hdi hd hdd K hK
            refine ⟨rfl, ?_⟩
            unfold backA at hK ⊢
            go_wp2
            exact hK (.pointer (some ⟨w'.heap.size, 0, none⟩)) _ (bk_alloc hS hdi _) ⟨_, _, _, _, _, _, rfl, hS.size, obj_new _ _⟩ (fun j u _ h => BkV.low ((Below.refl _ _).alloc (Nat.le_refl _) _) h)
          · intro d x w' hS hdi hd hdd K hK
            obtain ⟨nb, y0, y1, y2, y3, y4, d0, hnb, hnh⟩ : BkV w1.heap.size k a l.length c p wr.heap.size (szOf sz) l' 25 (x 25) w' := hd _ List.mem_cons_self
            have d1 : x 23 = entV (addE (szOf sz) l' p) := hd _ (List.mem_cons_of_mem _ List.mem_cons_self)
            have h21 : d 21 = true := hdd _ (List.mem_cons_of_mem _ (List.mem_cons_of_mem _ List.mem_cons_self))
            have h25 : d 25 = true := hdd _ List.mem_cons_self
            refine ⟨rfl, ?_⟩
            unfold backA at hK ⊢
            simp only [d0, d1] at hK ⊢
            unfold entV
            have z0 := obj_cell hnh 0
            have z1 := obj_cell hnh 1
            have z2 := obj_cell hnh 2
            have z3 := obj_cell hnh 3
            have z4 := obj_cell hnh 4
            have f0 := obj_frozen hnh 0
            have f1 := obj_frozen hnh 1
            have f2 := obj_frozen hnh 2
            have f3 := obj_frozen hnh 3
            have f4 := obj_frozen hnh 4
            simp only [List.getElem?_toArray, List.getElem?_cons_zero, List.getElem?_cons_succ] at z0 z1 z2 z3 z4
            have HNH := hide hnh
            clear hnh
            go_wp2
            exact hK (.pointer (some ⟨nb, 0, none⟩)) _ (bk_store hS h21 h25 HZN.out d0 HNH.out) ⟨nb, rfl, hnb, five_setT HNH.out _ _ _ _ _⟩ (fun j u hj h => BkV.store (five_fr (F := (· = nb)) (Fr.refl _ _) (fun _ => rfl)) (five_setT HNH.out _ _ _ _ _) hj h)
          · intro d x w' hS hdi hd hdd K hK
            have d0 : x 24 = .int .i64 (addC (szOf sz) l' p) := by first | exact hd _ List.mem_cons_self | exact hd _ (List.mem_cons_of_mem _ List.mem_cons_self) | exact hd _ (List.mem_cons_of_mem _ (List.mem_cons_of_mem _ List.mem_cons_self)) | exact hd _ (List.mem_cons_of_mem _ (List.mem_cons_of_mem _ (List.mem_cons_of_mem _ List.mem_cons_self))) | exact hd _ (List.mem_cons_of_mem _ (List.mem_cons_of_mem _ (List.mem_cons_of_mem _ (List.mem_cons_of_mem _ List.mem_cons_self))))
            refine ⟨rfl, ?_⟩
            unfold backA at hK ⊢
            simp only [d0] at hK ⊢
            go_wp2
            exact hK (.int .i64 (addC (szOf sz) l' p)) w' hS rfl (fun _ _ _ h => h)
        · intro d x w' hS hall hv
          have e27 : x 27 = .int .i64 (addC (szOf sz) l' p) := hv 27 (by decide)
          obtain ⟨nb, e26, hnb, hnh⟩ : BkV w1.heap.size k a l.length c p wr.heap.size (szOf sz) l' 26 (x 26) w' := hv 26 (by decide)
          obtain ⟨lv1, hst, hi1, ha1, hn1, h25, h26, hb, hN⟩ := hS
          have e25 : x 25 = .pointer (some ⟨nb, 0, none⟩) := (h26 (hall 26 (by decide))).2.symm.trans e26
          have hs1 : SgP w' w1.heap.size (szOf sz) (addL (szOf sz) l' p) lv1 := by
            rcases hst with ⟨h1, _⟩ | ⟨_, h1⟩
            · rw [hall 21 (by decide)] at h1
              cases h1
            · exact h1
          unfold backA
          simp only [e25, e27]
          clear hst h25 h26 hall hv e26 hN
          by_cases hok : addOk (szOf sz) l' p
          · rw [show addC (szOf sz) l' p = 0 from if_pos hok]
            have hgl := Sg.lt hs1
            have hal : Below w'.heap.size w' (w'.alloc (.cells p.cells.toArray 93)) := (Below.refl _ _).alloc (Nat.le_refl _) _
            obtain ⟨vI, w5, hrunI, hI5, hf5, _⟩ := app_pc (w := w'.alloc (.cells p.cells.toArray 93)) (row_below hi1 hal) p (g' := w'.heap.size) (obj_new _ _) (by omega) (by simp; omega) 80
            obtain ⟨A5, m5, rfl⟩ := row_slice hI5
            have hf5s := hf5.size
            simp only [World.size_alloc] at hf5s
            have ha5 : OwE w5 w1.heap.size (.slice A2 (entsAt 0 l').length m2) (entsAt 0 l') := row_fr (row_below ha1 hal) hf5 (fun j hj he => by
              obtain ⟨_, cs, h⟩ := row_typed ha1 hj
              obtain ⟨_, cs', h'⟩ := row_typed hi1 he
              rw [h] at h'
              cases h')
            obtain ⟨vA, w6, hrunA, hA6, hf6, hvA⟩ := app_ent (w := w5.alloc (.cells (addE (szOf sz) l' p).cells.toArray 89)) (row_below ha5 ((Below.refl _ _).alloc (Nat.le_refl _) _)) (addE (szOf sz) l' p) (g' := w5.heap.size) (obj_new _ _) (by rw [entsAt_len]; omega) (by simp; omega) 84
            obtain ⟨A6, m6, rfl⟩ := row_slice hA6
            have HST := hide (bk_next hkl hlk hok HI.out hs1 hi1 ha1 hn1 hb hg hI5 hf5 hA6 hf6 hvA)
            have hn5 := hf5.obj (obj_alloc hnh _) (fun h => by
              obtain ⟨_, cs', h'⟩ := row_typed hi1 h
              rw [hnh] at h'
              cases h')
            have n0 := obj_cell hn5 0
            have n1 := obj_cell hn5 1
            have n2 := obj_cell hn5 2
            have n3 := obj_cell hn5 3
            have n4 := obj_cell hn5 4
            simp only [List.getElem?_toArray, List.getElem?_cons_zero, List.getElem?_cons_succ] at n0 n1 n2 n3 n4
            have y0 := (hb.cell (World.block_lt_of_cell? _ _ C0.out)).trans C0.out
            have y1 := (hb.cell (World.block_lt_of_cell? _ _ C1.out)).trans C1.out
            have y2 := (hb.cell (World.block_lt_of_cell? _ _ C2.out)).trans C2.out
            have y3 := (hb.cell (World.block_lt_of_cell? _ _ C3.out)).trans C3.out
            simp only [Pc.cells] at hrunI
            simp only [Ent.cells] at hrunA
            have HF6 := hide hf6
            clear hI5 hf5 ha5 hA6 hf6 hvA hn5 hnh hs1 hi1 ha1 hn1 hb hal HF6
            go_wp2_with (at_builtin; first | refine wpList_append_run rfl (.tmp 56) (.tmp 61) 80 80 rfl rfl rfl hrunI ?_ | refine wpList_append_run rfl (.tmp 63) (.tmp 65) 84 84 rfl rfl rfl hrunA ?_)
            go_wp2
            go_roundw
            case rel =>
              have hst := HST.out
              simp only [List.length_append, List.length_singleton] at hst
              exact hst
            case measure => simp [intOf]; omega
          · have hcc := addC_ne hok
            rw [show addL (szOf sz) l' p = l' from if_neg hok] at hs1
            have HST : Hid (BackS w w1.heap.size (szOf sz) l w' (.slice A1 l'.length m1) (.slice A2 (entsAt 0 l').length m2) (.int .i64 ((k + 1 : Nat) : Int))) := hide ⟨k + 1, l', lv1, rfl, hkl, by omega, hs1, HI.out, hi1, ha1, hn1, hb, hg⟩
            generalize addC (szOf sz) l' p = cc at hcc ⊢
            have hcc' : (cc == 0) = false := by simp [hcc]
            clear hs1 hi1 ha1 hn1 hb hnh
            go_wp2
            go_roundw
            case rel => exact HST.out
            case measure => simp [intOf]; omega
      · obtain rfl : k = l.length := by omega
        have hl50 : l'.length ≤ 50 := by omega
        have hel := entsAt_len 0 l'
        have hsb := segS_bound HI.out hsz0 hsz1
        have hss := segS_size l'
        go_wp2_with fail
        refine (sealP w1.heap.size (szOf sz) l' lv _ HS.out HI.out hsz1 (by omega)).mono ?_
        rintro e w3 ⟨rfl, hb3⟩
        have HIN3 := hide (row_below HIN.out hb3)
        have HAT3 := hide (row_below HAT.out hb3)
        have HB3 := hide (HB.out.trans (hb3.mono HB.out.size))
        clear hb3
        go_wp2_with fail
        refine (segOpen_seal (szOf sz) l' _ HI.out hsz0 hsz1).mono ?_
        rintro e w4 ⟨A3, m3, rfl, hO4, hb4⟩
        have HO4 := hide hO4
        have HIN4 := hide (row_below HIN3.out hb4)
        have HAT4 := hide (row_below HAT3.out hb4)
        have HB4 := hide (HB3.out.trans (hb4.mono HB3.out.size))
        clear hb4 hO4
        have hsm := same_yes (.slice A3 l'.length m3) (.slice A2 (entsAt 0 l').length m2) w3.heap.size w1.heap.size (entsAt 0 l') w4 (by omega) HO4.out HAT4.out
        rw [hel] at hsm
        go_wp2_with fail
        refine hsm.mono ?_
        rintro e w5 ⟨rfl, hb5⟩
        have HO5 := hide (row_below HO4.out hb5)
        have HIN5 := hide (row_below HIN4.out hb5)
        have HB5 := hide (HB4.out.trans (hb5.mono HB4.out.size))
        clear hb5
        obtain ⟨M1, hM1⟩ : ∃ M1, (if sz < 16 then (16 : Int) else sz) = M1 := ⟨_, rfl⟩
        obtain ⟨M2, hM2⟩ : ∃ M2, (if 65536 < M1 then (65536 : Int) else M1) = M2 := ⟨_, rfl⟩
        have hsb' : ¬ M2 < ((segS l').size : Int) := by
          have h1 := hsb
          unfold szOf at h1
          have h2 : M2 = min (max sz 16) 65536 := by
            rw [← hM2, ← hM1]
            split <;> split <;> omega
          omega
        have hsmall : (segS l').size ≤ 4611686018427387904 := by omega
        clear hss hsb
        go_wp2_with fail
        go_loopw [14] (fun i wr' => RestS w5 l'.length wr' i) (fun i _ => l'.length - (intOf i).toNat)
        case atStart => exact ⟨0, rfl, Nat.zero_le _, Below.refl _ _⟩
        case round =>
          rename_i wq
          obtain ⟨q, rfl, hq, hbq⟩ := hrel
          have HBQ := hide hbq
          clear hbq
          rcases Nat.lt_or_ge q l'.length with hql | hql
          · obtain ⟨g3, c3, hv3, _, hg3, hc3, hcell⟩ := ent_cells (k := q) (row_below HO5.out HBQ.out) (by rw [hel]; exact hql)
            rw [hel] at hv3 hc3
            cases hv3
            obtain ⟨g4, c4, hv4, _, hg4, hc4, hcell4⟩ := pc_cells (row_below HIN5.out HBQ.out) hql
            cases hv4
            rw [entsAt_get l' 0 q hql, Nat.zero_add] at hcell
            obtain ⟨he, hle⟩ := seg_body l' q hql
            have HE := hide he
            clear he
            have a0 := hcell 0 (by decide)
            have a1 := hcell 1 (by decide)
            have a2 := hcell 2 (by decide)
            have a3 := hcell 3 (by decide)
            have a4 := hcell 4 (by decide)
            have b0 := hcell4 0 (by decide)
            have b1 := hcell4 1 (by decide)
            have b2 := hcell4 2 (by decide)
            have b3 := hcell4 3 (by decide)
            simp only [Ent.cells, Pc.ent, Pc.cells, List.getElem?_cons_zero, List.getElem?_cons_succ, Nat.add_zero] at a0 a1 a2 a3 a4 b0 b1 b2 b3
            clear hcell hcell4
            go_wp2_with fail
            refine (get_ok (segS l') l'[q].kind l'[q].inode l'[q].block (pcText (l'.take q)).length l'[q].body.size _ hsmall hle).mono ?_
            rintro e w6 ⟨rfl, hb6⟩
            rw [HE.out]
            have hbb : Below w5.heap.size w5 w6 := HBQ.out.trans (hb6.mono HBQ.out.size)
            have a0' := (hb6.cell (World.block_lt_of_cell? _ _ a0)).trans a0
            have a1' := (hb6.cell (World.block_lt_of_cell? _ _ a1)).trans a1
            have a2' := (hb6.cell (World.block_lt_of_cell? _ _ a2)).trans a2
            have b0' := (hb6.cell (World.block_lt_of_cell? _ _ b0)).trans b0
            have b1' := (hb6.cell (World.block_lt_of_cell? _ _ b1)).trans b1
            have b2' := (hb6.cell (World.block_lt_of_cell? _ _ b2)).trans b2
            have b3' := (hb6.cell (World.block_lt_of_cell? _ _ b3)).trans b3
            have HBB := hide hbb
            clear hb6 hbb a0 a1 a2 a3 a4 b0 b1 b2 b3
            generalize l'[q] = p at *
            go_wp2_with fail
            go_quiet (skip)
            go_wp2
            go_roundw
            case rel => exact ⟨q + 1, rfl, hql, below_drewN HBB.out _⟩
            case measure => simp [intOf]; omega
          · obtain rfl : q = l'.length := by omega
            go_wp2_with fail
            refine (awake31 _).mono ?_
            rintro e w6 ⟨rfl, hb6⟩
            go_wp2
            go_ret
            exact ⟨rfl, (HB5.out.trans (HBQ.out.mono HB5.out.size)).trans (hb6.mono (Nat.le_trans HB5.out.size HBQ.out.size))⟩
end Go.Proofs.Ytljmaicobafgkaa
