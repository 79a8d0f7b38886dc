/- The walks of the references of layer 3. -/
import Derived.Test.YthcnoamgkkbkcaaReader
import Derived.Test.YthcnoamgkkbkcaaRp0
namespace Go.Proofs.Ythcnoamgkkbkcaa
open Go.RowKit

theorem OwB.nil (w : World) (B : Nat) : OwB w B (.slice none 0 0) [] := World.ownsRow_nil w B 5 1
theorem conv_own {w : World} {B : Nat} {v : Value} {l : List UInt8} (h : OwB w B v l) : (convert 119 9 v).run Try.prog w = .ok (.string ⟨l.toArray⟩) w := by
  obtain ⟨A, c, rfl, _, hr⟩ := h.rd
  exact conv_str l rfl (fun ad e => (hr.2 ad e).2) hr.1
def RIntS (w0 : World) (z : Nat) (w : World) (v uv : Value) : Prop :=
  ∃ (l : List UInt8) (u : Nat), uv = .int .u64 u ∧ l ++ numN u = numN z ∧ u < 18446744073709551616 ∧ Below w0.heap.size w0 w ∧ OwB w w0.heap.size v l
theorem or128' (u : Nat) : bits .or .u8 (bits .and .u64 (u : Int) 127 % 256) 128 = ((UInt8.ofNat (u % 128 + 128)).toNat : Int) := by
  have h1 : bits .and .u64 (u : Int) 127 = ((u % 128 : Nat) : Int) := by
    show IntKind.u64.wrap ((BitVec.ofInt 64 (u : Int) &&& BitVec.ofInt 64 127).toNat : Int) = _
    have h : (BitVec.ofInt 64 (u : Int) &&& BitVec.ofInt 64 127).toNat = u % 128 := by
      rw [BitVec.toNat_and, BitVec.ofInt_natCast, BitVec.toNat_ofNat, show (BitVec.ofInt 64 127).toNat = 2 ^ 7 - 1 from by decide, Nat.and_two_pow_sub_one_eq_mod]
      omega
    rw [h]
    show ((u % 128 : Nat) : Int) % 18446744073709551616 = _
    omega
  have h2 := or128 (u % 128)
  rw [h1, h2]
  rw [Nat.mod_mod]
theorem zz_neg (n : Int) (h0 : -9223372036854775808 ≤ n) (h1 : n < 0) : bits .xor .u64 (IntKind.u64.wrap (IntKind.u64.wrap n * 2)) 18446744073709551615 = (zz n : Int) := by
  have h := zig n h0 (by omega)
  rw [show n / 9223372036854775808 = -1 from by omega, show IntKind.u64.wrap (-1) = 18446744073709551615 from by decide] at h
  exact h
theorem zz_pos (n : Int) (h0 : 0 ≤ n) (_h1 : n ≤ 9223372036854775807) : n * 2 = (zz n : Int) := by
  simp only [zz, h0, if_true]
  omega
set_option maxRecDepth 100000 in
theorem rInt_pos (n : Int) (w : World) (h0 : 0 ≤ n) (h1 : n ≤ 9223372036854775807) :
    Calls Try.prog 66 #[.int .i64 n] w fun e w' => e = .returned (.string ⟨(num n).toArray⟩) ∧ Below w.heap.size w w' := by
  have hz := zz_lt n (by omega) (by omega)
  go_enter Try.func66, Try.ntmps66
  go_wp2
  rw [zz_pos n h0 h1]
  go_loopw [3, 4] (fun uv v wr => RIntS w (zz n) wr v uv) (fun uv _ _ => (intOf uv).toNat)
  case atStart => exact ⟨[], zz n, rfl, rfl, hz, Below.refl _ _, OwB.nil _ _⟩
  case round =>
    obtain ⟨l1, u, rfl, hlist, hu, hbel, hv⟩ := hrel
    have hlen2 : l1.length ≤ 10 := by
      have h3 := congrArg List.length hlist
      have h2 := numN_ten (zz n) hz
      simp only [List.length_append] at h3
      omega
    have HL := hide hlist
    clear hlist
    by_cases hsm : u < 128
    · obtain ⟨v', w', hrun, hown, hb⟩ := app_own hv (UInt8.ofNat u) (by omega) hbel.size 119
      have hx : ((UInt8.ofNat u).toNat : Int) = (u : Int) := by simp only [UInt8.toNat_ofNat']; omega
      rw [hx] at hrun
      have hfin : l1 ++ [UInt8.ofNat u] = num n := by rw [← numN_small hsm]; exact HL.out
      rw [hfin] at hown
      have hcv := conv_own hown
      have HB := hide (hbel.trans hb)
      clear hv hx hfin hbel hb hown
      go_wp2_with (at_builtin; refine wpList_append_run rfl (.tmp 23) (.tmp 26) 119 119 rfl rfl rfl hrun ?_)
      go_ret
      exact ⟨rfl, HB.out⟩
    · obtain ⟨v', w', hrun, hown, hb⟩ := app_own hv (UInt8.ofNat (u % 128 + 128)) (by omega) hbel.size 119
      rw [← or128'] at hrun
      have hnext : (l1 ++ [UInt8.ofNat (u % 128 + 128)]) ++ numN (u / 128) = numN (zz n) := by rw [List.append_assoc, List.singleton_append, ← numN_large hsm]; exact HL.out
      have HN := hide hnext
      have HB := hide (hbel.trans hb)
      clear hv hnext hbel hb
      go_wp2_with (at_builtin; refine wpList_append_run rfl (.tmp 14) (.tmp 19) 119 119 rfl rfl rfl hrun ?_)
      go_roundw
      case rel => exact ⟨_, u / 128, by go_num, HN.out, by omega, HB.out, hown⟩
      case measure => simp [intOf]; omega
set_option maxRecDepth 100000 in
theorem rInt_neg (n : Int) (w : World) (h0 : -9223372036854775808 ≤ n) (h1 : n < 0) :
    Calls Try.prog 66 #[.int .i64 n] w fun e w' => e = .returned (.string ⟨(num n).toArray⟩) ∧ Below w.heap.size w w' := by
  have hz := zz_lt n (by omega) (by omega)
  go_enter Try.func66, Try.ntmps66
  go_wp2
  rw [zz_neg n h0 h1]
  go_loopw [3, 4] (fun uv v wr => RIntS w (zz n) wr v uv) (fun uv _ _ => (intOf uv).toNat)
  case atStart => exact ⟨[], zz n, rfl, rfl, hz, Below.refl _ _, OwB.nil _ _⟩
  case round =>
    obtain ⟨l1, u, rfl, hlist, hu, hbel, hv⟩ := hrel
    have hlen2 : l1.length ≤ 10 := by
      have h3 := congrArg List.length hlist
      have h2 := numN_ten (zz n) hz
      simp only [List.length_append] at h3
      omega
    have HL := hide hlist
    clear hlist
    by_cases hsm : u < 128
    · obtain ⟨v', w', hrun, hown, hb⟩ := app_own hv (UInt8.ofNat u) (by omega) hbel.size 119
      have hx : ((UInt8.ofNat u).toNat : Int) = (u : Int) := by simp only [UInt8.toNat_ofNat']; omega
      rw [hx] at hrun
      have hfin : l1 ++ [UInt8.ofNat u] = num n := by rw [← numN_small hsm]; exact HL.out
      rw [hfin] at hown
      have hcv := conv_own hown
      have HB := hide (hbel.trans hb)
      clear hv hx hfin hbel hb hown
      go_wp2_with (at_builtin; refine wpList_append_run rfl (.tmp 23) (.tmp 26) 119 119 rfl rfl rfl hrun ?_)
      go_ret
      exact ⟨rfl, HB.out⟩
    · obtain ⟨v', w', hrun, hown, hb⟩ := app_own hv (UInt8.ofNat (u % 128 + 128)) (by omega) hbel.size 119
      rw [← or128'] at hrun
      have hnext : (l1 ++ [UInt8.ofNat (u % 128 + 128)]) ++ numN (u / 128) = numN (zz n) := by rw [List.append_assoc, List.singleton_append, ← numN_large hsm]; exact HL.out
      have HN := hide hnext
      have HB := hide (hbel.trans hb)
      clear hv hnext hbel hb
      go_wp2_with (at_builtin; refine wpList_append_run rfl (.tmp 14) (.tmp 19) 119 119 rfl rfl rfl hrun ?_)
      go_roundw
      case rel => exact ⟨_, u / 128, by go_num, HN.out, by omega, HB.out, hown⟩
      case measure => simp [intOf]; omega
theorem r3Int_any (n : Int) (w : World) (h0 : -9223372036854775808 ≤ n) (h1 : n ≤ 9223372036854775807) :
    Calls Try.prog 66 #[.int .i64 n] w fun e w' => e = .returned (.string ⟨(num n).toArray⟩) ∧ Below w.heap.size w w' := by
  by_cases h : 0 ≤ n
  · exact rInt_pos n w h h1
  · exact rInt_neg n w h0 (by omega)
theorem str_app (a : List UInt8) (s : ByteArray) : (⟨a.toArray⟩ : ByteArray) ++ s = ⟨(a ++ s.data.toList).toArray⟩ := by
  rw [← str_eta (_ ++ s)]
  simp
theorem r3Text_any (s : ByteArray) (w : World) (hs : s.size ≤ 4611686018427387904) :
    Calls Try.prog 67 #[.string s] w fun e w' => e = .returned (.string ⟨(textB s.data.toList).toArray⟩) ∧ Below w.heap.size w w' := by
  have hz := zz_lt (s.size : Int) (by omega) (by omega)
  have hlen := numN_ten _ hz
  have hsz : (⟨(num (s.size : Int)).toArray⟩ : ByteArray).size + s.size ≤ 9223372036854775807 := by rw [str_size]; unfold num; omega
  clear hz hlen
  go_enter Try.func67, Try.ntmps67
  go_wp2_with fail
  refine (r3Int_any s.size _ (by omega) (by omega)).mono ?_
  rintro e w' ⟨rfl, hb⟩
  go_wp2
  go_ret
  refine ⟨?_, hb⟩
  have e : (⟨(num (s.size : Int)).toArray⟩ : ByteArray) ++ s = ⟨(textB s.data.toList).toArray⟩ := by
    rw [str_app]
    rfl
  exact congrArg (fun x => Ending.returned (.string x)) e

theorem set_two (w : World) (g : Nat) (a b c d : Value) (h : w.heap[g]? = some (.cells #[a, b] 135 (0, 0))) : ((w.setCell ⟨g, 0, none⟩ c).setCell ⟨g, 1, none⟩ d).heap[g]? = some (.cells #[c, d] 135 (0, 0)) := by
  have h1 := obj_set h 0 c
  have h2 := obj_set (w := w.setCell ⟨g, 0, none⟩ c) h1 1 d
  simpa using h2
theorem bad_any (x y : Value) (w : World) :
    Calls Try.prog 97 #[.agg #[x, y]] w fun e w' => e = .returned (.agg (rdrCells none)) ∧ Below w.heap.size w w' := by
  go_enter Try.func97, Try.ntmps97
  go_wp2
  refine bodyPost_ret (res_c rfl _ _ (w.heap.size + 1) 135 (rdrCells none) _ _ rfl (by have := obj_new (w.alloc (.cells #[x, y] 135)) (.cells (rdrCells none) 135); simpa [rdrCells] using this) Try.underlying135 rfl (by kernel_rfl)) rfl ⟨rfl, ?_⟩
  exact ((Below.refl _ _).alloc (Nat.le_refl _) _).alloc (by simp) _
theorem end_any (σ : Option (List UInt8)) (w : World) :
    Calls Try.prog 76 #[.agg (rdrCells σ)] w fun e w' => e = .returned (.int .i64 (rDone σ)) ∧ Below w.heap.size w w' := by
  rcases σ with _ | l
  · unfold rdrCells
    go_enter Try.func76, Try.ntmps76
    go_wp2
    go_ret
    exact ⟨rfl, (Below.refl _ _).alloc (Nat.le_refl _) _⟩
  · rcases l with _ | ⟨b, r⟩
    · unfold rdrCells
      go_enter Try.func76, Try.ntmps76
      go_wp2
      go_ret
      exact ⟨rfl, (Below.refl _ _).alloc (Nat.le_refl _) _⟩
    · unfold rdrCells
      go_enter Try.func76, Try.ntmps76
      go_wp2
      go_ret
      refine ⟨?_, (Below.refl _ _).alloc (Nat.le_refl _) _⟩
      simp [rDone]
theorem obj_new2 (w : World) (a o : Obj) : ((w.alloc a).alloc o).heap[w.heap.size + 1]? = some o := by
  have := obj_new (w.alloc a) o
  rw [World.size_alloc] at this
  exact this
theorem grp_bad' {b : UInt8} {r : List UInt8} {k : Nat} {u : Int} (h : (k = 9 ∧ 1 < b.toNat) ∨ (0 < k ∧ b.toNat = 0)) : grpR (b :: r) k u = none := by
  rw [grpR]
  split
  · rfl
  · split
    · rcases h with ⟨rfl, h⟩ | ⟨h1, h2⟩
      · exact grp_over
      · omega
    · rw [if_pos (by omega)]
set_option maxHeartbeats 4000000 in
set_option maxRecDepth 100000 in
theorem takeInt_any3 (l : List UInt8) (w : World) (hl : l.length ≤ 1073741824) :
    Calls Try.prog 74 #[.agg #[.string ⟨l.toArray⟩, .bool false]] w fun e w' => e = .returned (.tuple #[.agg (rdrCells (rInt (some l)).2), .int .i64 (rInt (some l)).1]) ∧ Below w.heap.size w w' := by
  have hz : (⟨l.toArray⟩ : ByteArray).size = l.length := rfl
  go_enter Try.func74, Try.ntmps74
  go_wp2
  go_loop [4, 5, 6, 7] (fun q i _ _ => GrpS ⟨l.toArray⟩ q i) (fun _ i _ _ => 10 - (intOf i).toNat)
  case atStart => exact ⟨0, 0, rfl, rfl, by omega, by omega, by omega, by omega, by exact rfl⟩
  case round =>
    obtain ⟨k, u, rfl, rfl, hk, hk2, hu0, hu1, HK⟩ := hrel
    have hnew := obj_new (w.alloc (.cells #[.string ⟨l.toArray⟩, .bool false] 135)) (.cells #[.string ⟨#[]⟩, .bool false] 135)
    rw [World.size_alloc] at hnew
    have hbw : Below w.heap.size w ((w.alloc (.cells #[.string ⟨l.toArray⟩, .bool false] 135)).alloc (.cells #[.string ⟨#[]⟩, .bool false] 135)) := ((Below.refl _ _).alloc (Nat.le_refl _) _).alloc (by simp) _
    have HN := hide hnew
    have HBW := hide hbw
    clear hnew hbw
    by_cases hlt : k < l.length ∧ k < 10
    · obtain ⟨hlt, hlt2⟩ := hlt
      have hks : k < (⟨l.toArray⟩ : ByteArray).size := hlt
      have hd := drop_at ⟨l.toArray⟩ k hks
      obtain ⟨m, hm⟩ : ∃ m : Nat, m = ((⟨l.toArray⟩ : ByteArray)[k]'hks).toNat := ⟨_, rfl⟩
      have hm256 : m < 256 := by rw [hm]; exact UInt8.toNat_lt _
      have hb : IntKind.u64.wrap (((⟨l.toArray⟩ : ByteArray)[k]'hks).toNat : Int) = (m : Int) := by rw [wr_byte, hm]
      have HD := hide hd
      have HM := hide hm
      clear hd hm
      by_cases hbad : (k = 9 ∧ 1 < m) ∨ (0 < k ∧ m = 0)
      · have hres := HK.out
        rw [HD.out] at hres
        have hr0 : rInt (some l) = (0, none) := by
          have hn : grpR l 0 0 = none := by
            rw [← hres]
            exact grp_bad' (by rw [← HM.out]; exact hbad)
          simp only [rInt, hn]
        have HR := hide hr0
        clear hr0 hres
        have hcase : (9 ≤ k ∧ 1 < m) ∨ (k < 9 ∧ 0 < k ∧ m = 0) ∨ (9 ≤ k ∧ m = 0) := by omega
        clear hbad
        rcases hcase with ⟨h1, h2⟩ | ⟨h1, h2, h3⟩ | ⟨h1, h3⟩
        · go_wp2_with fail
          refine (bad_any _ _ _).mono ?_
          rintro e w2 ⟨rfl, hb2⟩
          have HB2 := hide hb2
          clear hb2
          unfold rdrCells
          have hr2 := HB2.out
          have hz := obj_below HN.out hr2
          have z0 := obj_cell hz 0
          have z1 := obj_cell hz 1
          have f0 := obj_frozen hz 0
          have f1 := obj_frozen hz 1
          simp only [List.getElem?_toArray, List.getElem?_cons_zero, List.getElem?_cons_succ] at z0 z1
          have HZ := hide hz
          clear hz hr2
          go_wp2
          refine bodyPost_ret (res_ct rfl _ _ (w.heap.size + 1) 135 (rdrCells none) _ _ rfl (set_two _ _ _ _ _ _ HZ.out) Try.underlying135 rfl (by kernel_rfl)) rfl ⟨by rw [HR.out]; rfl, ?_⟩
          exact ((HBW.out.trans (HB2.out.mono (by simp; omega))).setCell (p := ⟨w.heap.size + 1, 0, none⟩) (by simp) _).setCell (p := ⟨w.heap.size + 1, 1, none⟩) (by simp) _
        · obtain rfl := h3
          go_wp2_with fail
          refine (bad_any _ _ _).mono ?_
          rintro e w2 ⟨rfl, hb2⟩
          have HB2 := hide hb2
          clear hb2
          unfold rdrCells
          have hr2 := HB2.out
          have hz := obj_below HN.out hr2
          have z0 := obj_cell hz 0
          have z1 := obj_cell hz 1
          have f0 := obj_frozen hz 0
          have f1 := obj_frozen hz 1
          simp only [List.getElem?_toArray, List.getElem?_cons_zero, List.getElem?_cons_succ] at z0 z1
          have HZ := hide hz
          clear hz hr2
          go_wp2
          refine bodyPost_ret (res_ct rfl _ _ (w.heap.size + 1) 135 (rdrCells none) _ _ rfl (set_two _ _ _ _ _ _ HZ.out) Try.underlying135 rfl (by kernel_rfl)) rfl ⟨by rw [HR.out]; rfl, ?_⟩
          exact ((HBW.out.trans (HB2.out.mono (by simp; omega))).setCell (p := ⟨w.heap.size + 1, 0, none⟩) (by simp) _).setCell (p := ⟨w.heap.size + 1, 1, none⟩) (by simp) _
        · obtain rfl := h3
          go_wp2_with fail
          refine (bad_any _ _ _).mono ?_
          rintro e w2 ⟨rfl, hb2⟩
          have HB2 := hide hb2
          clear hb2
          unfold rdrCells
          have hr2 := HB2.out
          have hz := obj_below HN.out hr2
          have z0 := obj_cell hz 0
          have z1 := obj_cell hz 1
          have f0 := obj_frozen hz 0
          have f1 := obj_frozen hz 1
          simp only [List.getElem?_toArray, List.getElem?_cons_zero, List.getElem?_cons_succ] at z0 z1
          have HZ := hide hz
          clear hz hr2
          go_wp2
          refine bodyPost_ret (res_ct rfl _ _ (w.heap.size + 1) 135 (rdrCells none) _ _ rfl (set_two _ _ _ _ _ _ HZ.out) Try.underlying135 rfl (by kernel_rfl)) rfl ⟨by rw [HR.out]; rfl, ?_⟩
          exact ((HBW.out.trans (HB2.out.mono (by simp; omega))).setCell (p := ⟨w.heap.size + 1, 0, none⟩) (by simp) _).setCell (p := ⟨w.heap.size + 1, 1, none⟩) (by simp) _
      · by_cases h128 : m < 128
        · have hres := HK.out
          have hg : gStep u ((⟨l.toArray⟩ : ByteArray)[k]'hks) k = bits .or .u64 u (IntKind.u64.wrap (bits .and .u64 (m : Int) 127 * 2 ^ (7 * k))) := by unfold gStep; rw [hb]
          rw [HD.out, grp_end hlt2 (fun h1 => by rw [hb]; omega) (fun h1 => by rw [hb]; omega) (by rw [hb]; omega), hg] at hres
          obtain ⟨v, hv⟩ : ∃ v, v = bits .or .u64 u (IntKind.u64.wrap (bits .and .u64 (m : Int) 127 * 2 ^ (7 * k))) := ⟨_, rfl⟩
          have hv0 : 0 ≤ v ∧ v < 18446744073709551616 := by rw [hv]; exact bits_u64 _ _ _
          obtain ⟨q, hq⟩ : ∃ q : Nat, v = q := ⟨v.toNat, by omega⟩
          have hr1 : rInt (some l) = (unz q, some (l.drop (k + 1))) := by
            rw [← hv, hq] at hres
            simp only [rInt, ← hres]
          have hvq : bits .or .u64 u (IntKind.u64.wrap (bits .and .u64 (m : Int) 127 * 2 ^ (7 * k))) = (q : Int) := by rw [← hv, hq]
          have hqb : q < 18446744073709551616 := by omega
          have hand := and1_u64 q hqb
          have HR1 := hide hr1
          have hx : (⟨l.toArray⟩ : ByteArray).extract (k + 1) l.length = ⟨(l.drop (k + 1)).toArray⟩ := ext_drop l (k + 1)
          clear hres hr1 hg hv hv0 hq
          have hc3 : (k < 9 ∧ 0 < k ∧ 0 < m) ∨ (k < 1) ∨ (k = 9 ∧ m = 1) := by omega
          clear hbad
          by_cases hpar : q % 2 = 1
          · rw [hpar] at hand
            have HPAR := hide hpar
            clear hpar
            rcases hc3 with ⟨hk1, hk2, hk3⟩ | hk1 | ⟨hk1, hk2⟩
            · go_wp2
              refine bodyPost_ret (res_ct rfl _ _ (w.heap.size + 1) 135 (rdrCells (some (l.drop (k + 1)))) _ _ rfl (obj_new2 _ _ _) Try.underlying135 rfl (by kernel_rfl)) rfl ⟨?_, ?_⟩
              · rw [HR1.out]
                refine congrArg (fun x => Ending.returned (.tuple #[.agg (rdrCells (some (l.drop (k + 1)))), .int .i64 x])) ?_
                have := HPAR.out
                show _ = unz q
                unfold unz
                split <;> omega
              · exact ((Below.refl _ _).alloc (Nat.le_refl _) _).alloc (by simp) _
            · go_wp2
              refine bodyPost_ret (res_ct rfl _ _ (w.heap.size + 1) 135 (rdrCells (some (l.drop (k + 1)))) _ _ rfl (obj_new2 _ _ _) Try.underlying135 rfl (by kernel_rfl)) rfl ⟨?_, ?_⟩
              · rw [HR1.out]
                refine congrArg (fun x => Ending.returned (.tuple #[.agg (rdrCells (some (l.drop (k + 1)))), .int .i64 x])) ?_
                have := HPAR.out
                show _ = unz q
                unfold unz
                split <;> omega
              · exact ((Below.refl _ _).alloc (Nat.le_refl _) _).alloc (by simp) _
            · have e1 : ((k : Int) == 9) = true := by simp; omega
              have e2 : ((m : Int) == 0) = false := by simp; omega
              have e3 : decide ((1 : Int) < (m : Int)) = false := by simp; omega
              have e4 : (m : Int) < 128 := by omega
              have e5 : 0 < k := by omega
              clear hk1 hk2
              go_wp2
              refine bodyPost_ret (res_ct rfl _ _ (w.heap.size + 1) 135 (rdrCells (some (l.drop (k + 1)))) _ _ rfl (obj_new2 _ _ _) Try.underlying135 rfl (by kernel_rfl)) rfl ⟨?_, ?_⟩
              · rw [HR1.out]
                refine congrArg (fun x => Ending.returned (.tuple #[.agg (rdrCells (some (l.drop (k + 1)))), .int .i64 x])) ?_
                have := HPAR.out
                show _ = unz q
                unfold unz
                split <;> omega
              · exact ((Below.refl _ _).alloc (Nat.le_refl _) _).alloc (by simp) _
          · rw [show q % 2 = 0 from by omega] at hand
            have HPAR := hide hpar
            clear hpar
            rcases hc3 with ⟨hk1, hk2, hk3⟩ | hk1 | ⟨hk1, hk2⟩
            · go_wp2
              refine bodyPost_ret (res_ct rfl _ _ (w.heap.size + 1) 135 (rdrCells (some (l.drop (k + 1)))) _ _ rfl (obj_new2 _ _ _) Try.underlying135 rfl (by kernel_rfl)) rfl ⟨?_, ?_⟩
              · rw [HR1.out]
                refine congrArg (fun x => Ending.returned (.tuple #[.agg (rdrCells (some (l.drop (k + 1)))), .int .i64 x])) ?_
                have := HPAR.out
                show _ = unz q
                unfold unz
                split <;> omega
              · exact ((Below.refl _ _).alloc (Nat.le_refl _) _).alloc (by simp) _
            · go_wp2
              refine bodyPost_ret (res_ct rfl _ _ (w.heap.size + 1) 135 (rdrCells (some (l.drop (k + 1)))) _ _ rfl (obj_new2 _ _ _) Try.underlying135 rfl (by kernel_rfl)) rfl ⟨?_, ?_⟩
              · rw [HR1.out]
                refine congrArg (fun x => Ending.returned (.tuple #[.agg (rdrCells (some (l.drop (k + 1)))), .int .i64 x])) ?_
                have := HPAR.out
                show _ = unz q
                unfold unz
                split <;> omega
              · exact ((Below.refl _ _).alloc (Nat.le_refl _) _).alloc (by simp) _
            · have e1 : ((k : Int) == 9) = true := by simp; omega
              have e2 : ((m : Int) == 0) = false := by simp; omega
              have e3 : decide ((1 : Int) < (m : Int)) = false := by simp; omega
              have e4 : (m : Int) < 128 := by omega
              have e5 : 0 < k := by omega
              clear hk1 hk2
              go_wp2
              refine bodyPost_ret (res_ct rfl _ _ (w.heap.size + 1) 135 (rdrCells (some (l.drop (k + 1)))) _ _ rfl (obj_new2 _ _ _) Try.underlying135 rfl (by kernel_rfl)) rfl ⟨?_, ?_⟩
              · rw [HR1.out]
                refine congrArg (fun x => Ending.returned (.tuple #[.agg (rdrCells (some (l.drop (k + 1)))), .int .i64 x])) ?_
                have := HPAR.out
                show _ = unz q
                unfold unz
                split <;> omega
              · exact ((Below.refl _ _).alloc (Nat.le_refl _) _).alloc (by simp) _
        · have hnext : grpR (l.drop (k + 1)) (k + 1) (gStep u ((⟨l.toArray⟩ : ByteArray)[k]'hks) k) = grpR l 0 0 := by
            have hres := HK.out
            rw [HD.out, grp_go hlt2 (by rw [hb]; omega)] at hres
            exact hres
          have HNX := hide hnext
          have hg : gStep u ((⟨l.toArray⟩ : ByteArray)[k]'hks) k = bits .or .u64 u (IntKind.u64.wrap (bits .and .u64 (m : Int) 127 * 2 ^ (7 * k))) := by unfold gStep; rw [hb]
          have HG := hide hg
          have h9 : k < 9 := by omega
          clear hbad hnext hg
          go_wp2
          all_goals refine ⟨⟨k + 1, _, by go_num, rfl, by show k + 1 ≤ l.length; omega, by omega, (bits_u64 _ _ _).1, (bits_u64 _ _ _).2, by rw [← HG.out]; exact HNX.out⟩, by simp [intOf]; omega⟩
    · have hres : rInt (some l) = (0, none) := by
        have h0 := HK.out
        have hn : grpR (l.drop k) k u = none := by
          by_cases h : k < l.length
          · have h10 : k = 10 := by omega
            subst h10
            exact grp_over
          · rw [List.drop_of_length_le (by omega)]
            rfl
        have hn2 : grpR l 0 0 = none := by rw [← h0]; exact hn
        simp only [rInt, hn2]
      have HR := hide hres
      clear hres
      rcases Nat.lt_or_ge k l.length with h | h
      · have h10 : 10 ≤ k := by omega
        clear hlt
        · go_wp2_with fail
          refine (bad_any _ _ _).mono ?_
          rintro e w2 ⟨rfl, hb2⟩
          have HB2 := hide hb2
          clear hb2
          unfold rdrCells
          have hr2 := HB2.out
          have hz := obj_below HN.out hr2
          have z0 := obj_cell hz 0
          have z1 := obj_cell hz 1
          have f0 := obj_frozen hz 0
          have f1 := obj_frozen hz 1
          simp only [List.getElem?_toArray, List.getElem?_cons_zero, List.getElem?_cons_succ] at z0 z1
          have HZ := hide hz
          clear hz hr2
          go_wp2
          refine bodyPost_ret (res_ct rfl _ _ (w.heap.size + 1) 135 (rdrCells none) _ _ rfl (set_two _ _ _ _ _ _ HZ.out) Try.underlying135 rfl (by kernel_rfl)) rfl ⟨by rw [HR.out]; rfl, ?_⟩
          exact ((HBW.out.trans (HB2.out.mono (by simp; omega))).setCell (p := ⟨w.heap.size + 1, 0, none⟩) (by simp) _).setCell (p := ⟨w.heap.size + 1, 1, none⟩) (by simp) _
      · clear hlt
        · go_wp2_with fail
          refine (bad_any _ _ _).mono ?_
          rintro e w2 ⟨rfl, hb2⟩
          have HB2 := hide hb2
          clear hb2
          unfold rdrCells
          have hr2 := HB2.out
          have hz := obj_below HN.out hr2
          have z0 := obj_cell hz 0
          have z1 := obj_cell hz 1
          have f0 := obj_frozen hz 0
          have f1 := obj_frozen hz 1
          simp only [List.getElem?_toArray, List.getElem?_cons_zero, List.getElem?_cons_succ] at z0 z1
          have HZ := hide hz
          clear hz hr2
          go_wp2
          refine bodyPost_ret (res_ct rfl _ _ (w.heap.size + 1) 135 (rdrCells none) _ _ rfl (set_two _ _ _ _ _ _ HZ.out) Try.underlying135 rfl (by kernel_rfl)) rfl ⟨by rw [HR.out]; rfl, ?_⟩
          exact ((HBW.out.trans (HB2.out.mono (by simp; omega))).setCell (p := ⟨w.heap.size + 1, 0, none⟩) (by simp) _).setCell (p := ⟨w.heap.size + 1, 1, none⟩) (by simp) _
end Go.Proofs.Ythcnoamgkkbkcaa
