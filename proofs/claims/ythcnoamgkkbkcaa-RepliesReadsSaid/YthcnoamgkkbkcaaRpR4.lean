/- Chapter 15, replies: the reference: Text. -/
import Derived.Test.YthcnoamgkkbkcaaRpR1
namespace Go.Proofs.Ythcnoamgkkbkcaa
open Go.RowKit

/-- The clients that have calls, ahead of a place. -/
def clsTo (S : RS) (k : Nat) : List Int := ((List.range k).map fun n : Nat => (n : Int)).filter fun c => !(S.L c).isEmpty
theorem clsTo_all (S : RS) : clsTo S 64 = cls S := rfl
theorem clsTo_succ (S : RS) (k : Nat) : clsTo S (k + 1) = clsTo S k ++ if S.L (k : Int) = [] then [] else [(k : Int)] := by
  unfold clsTo
  rw [List.range_succ, List.map_append, List.filter_append]
  congr 1
  by_cases h : S.L (k : Int) = []
  · rw [if_pos h]
    simp [h]
  · rw [if_neg h]
    simp [h]
theorem clsTo_len (S : RS) (k : Nat) : (clsTo S k).length ≤ k := by
  unfold clsTo
  refine Nat.le_trans (List.length_filter_le _ _) ?_
  simp
theorem clsTo_bytes {S : RS} (h : ROk S) (k : Nat) : ((clsTo S k).flatMap (clB S)).length ≤ k * 65883 :=
  Nat.le_trans (flat_len (g := clB S) (m := 65883) (fun c _ => clB_len h c)) (Nat.mul_le_mul_right _ (clsTo_len S k))
/-- One byte is made a string, beside a number. -/
structure ByS (wq : World) (n : Int) (d3 : Bool) (x3 : Value) (w' : World) : Prop where
  b : Below wq.heap.size wq w'
  o : d3 = true → ∃ r, x3 = .slice (some ⟨r, 0, none⟩) 1 1 ∧ w'.heap[r]? = some (.cells #[.int .u8 (n)] 5 (0, 0))
theorem ByS.next {wq w1 w2 : World} {n : Int} {d3 : Bool} {x3 : Value} (h : ByS wq n d3 x3 w1) (hb : Below w1.heap.size w1 w2) : ByS wq n d3 x3 w2 :=
  ⟨h.b.trans (hb.mono h.b.size), fun e => by
    obtain ⟨r, e1, e2⟩ := h.o e
    exact ⟨r, e1, obj_below e2 hb⟩⟩
theorem ByS.build {wq w1 : World} {n : Int} {d3 : Bool} {x3 : Value} (h : ByS wq n d3 x3 w1) : ByS wq n true (.slice (some ⟨w1.heap.size, 0, none⟩) 1 1) (w1.alloc (.cells #[.int .u8 (n)] 5)) :=
  ⟨h.b.alloc h.b.size _, fun _ => ⟨_, rfl, obj_new _ _⟩⟩
theorem ByS.conv {wq w1 : World} {n : Int} {x3 : Value} (h : ByS wq n true x3 w1) (h0 : 0 ≤ n) (h1 : n < 256) : ∃ r, x3 = .slice (some ⟨r, 0, none⟩) 1 1 ∧ (convert 119 9 (.slice (some ⟨r, 0, none⟩) 1 1)).run Try.prog w1 = .ok (.string ⟨[ub n].toArray⟩) w1 := by
  obtain ⟨r, e1, e2⟩ := h.o rfl
  refine ⟨r, e1, conv_str [ub n] rfl (fun ad e j u hu => ?_) (fun e => by cases e)⟩
  cases e
  have hj : j < 1 := by
    have := (List.getElem?_eq_some_iff.1 hu).1
    simpa [byteVals] using this
  obtain rfl : j = 0 := by omega
  rw [add_plain', obj_cell e2]
  simp only [byteVals, List.map_cons, List.map_nil, List.getElem?_cons_zero, ub_small h0 h1] at hu ⊢
  simpa using hu
structure ByT (wq : World) (n : Int) (s0 : ByteArray) (d3 d10 : Bool) (x3 x10 : Value) (w' : World) : Prop extends ByS wq n d3 x3 w' where
  v : d10 = false → x10 = .string s0
def TqS (W0 : World) (S : RS) (wr : World) (nv sv cv : Value) : Prop :=
  ∃ k : Nat, cv = .int .i64 (k : Int) ∧ k ≤ 64 ∧ nv = .int .i64 ((clsTo S k).length : Nat) ∧ sv = .string ⟨((clsTo S k).flatMap (clB S)).toArray⟩ ∧ Below W0.heap.size W0 wr
def TrS (W0 : World) (P : List UInt8) (l : List En) (wr : World) (sv iv : Value) : Prop :=
  ∃ i : Nat, iv = .int .i64 (i : Int) ∧ i ≤ l.length ∧ sv = .string ⟨(P ++ (l.take i).flatMap enB).toArray⟩ ∧ Below W0.heap.size W0 wr
theorem ba_app (a b : List UInt8) : (⟨a.toArray⟩ : ByteArray) ++ ⟨b.toArray⟩ = ⟨(a ++ b).toArray⟩ := str_app a ⟨b.toArray⟩
def tqA (bn k n m : Nat) (A : Option Addr) (cap : Nat) (C : Array Value) (_s0 : ByteArray) (u x : Nat → Value) : Act := ⟨#[.agg C, .pointer (some ⟨bn, 0, none⟩), .string ⟨#[]⟩, .int .i64 ((m : Int) + 1), x 10, .int .i64 (k : Int), .slice A n cap, u 7, u 8, u 9, u 10, u 11, u 12, u 13, u 14, u 15, u 16, u 17, u 18, u 19, u 20, x 0, x 1, x 2, x 3, x 4, x 5, x 6, x 7, x 8, x 9, u 31, u 32, u 33, u 34, u 35, u 36, u 37, u 38, u 39, u 40, u 41, u 42, u 43, u 44, u 45, u 46, u 47, u 48, u 49, u 50, u 51, u 52, u 53, u 54, u 55, u 56, u 57, u 58, u 59, u 60, undef, undef, undef, undef, undef, undef, undef, undef, undef, undef], []⟩
def tqV (k n : Nat) (A : Option Addr) (cap : Nat) (s0 s1 s2 : ByteArray) (qx : Nat) (qw : Value) : Prop :=
  match qx with
  | 0 => qw = .string s0
  | 1 => qw = .int .i64 (k : Int)
  | 2 => qw = .int .u8 (k : Int)
  | 4 => qw = .string s1
  | 5 => qw = .slice A n cap
  | 6 => qw = .int .i64 (n : Int)
  | 7 => qw = .string s2
  | 8 => qw = .string (s1 ++ s2)
  | 9 => qw = .string (s0 ++ (s1 ++ s2))
  | 10 => qw = .string (s0 ++ (s1 ++ s2))
  | _ => True
def tzA (bn m : Nat) (C : Array Value) (s0 : ByteArray) (u x : Nat → Value) : Act := ⟨#[.agg C, .pointer (some ⟨bn, 0, none⟩), x 10, .int .i64 (m : Int), .string s0, u 5, u 6, u 7, u 8, u 9, u 10, u 11, u 12, u 13, u 14, u 15, u 16, u 17, u 18, u 19, u 20, u 21, u 22, u 23, u 24, u 25, u 26, u 27, u 28, u 29, u 30, u 31, u 32, u 33, u 34, u 35, u 36, u 37, u 38, u 39, u 40, u 41, u 42, u 43, u 44, u 45, u 46, u 47, u 48, u 49, u 50, u 51, u 52, u 53, u 54, u 55, u 56, u 57, u 58, u 59, u 60, x 0, x 1, x 2, x 3, x 4, x 5, x 6, x 7, x 8, x 9], []⟩
def tzV (bn m : Nat) (rm : Int) (s0 s1 s2 : ByteArray) (qx : Nat) (qw : Value) : Prop :=
  match qx with
  | 0 => qw = .pointer (some ⟨bn, 0, none⟩)
  | 1 => qw = .int .i64 rm
  | 2 => qw = .int .u8 rm
  | 4 => qw = .string s1
  | 5 => qw = .int .i64 (m : Int)
  | 6 => qw = .string s2
  | 7 => qw = .string (s1 ++ s2)
  | 8 => qw = .string s0
  | 9 => qw = .string ((s1 ++ s2) ++ s0)
  | 10 => qw = .string ((s1 ++ s2) ++ s0)
  | _ => True
set_option maxHeartbeats 16000000 in
set_option maxRecDepth 100000 in
theorem textQ_any {w : World} {B : Nat} {C : Array Value} {S : RS} (h : QR w B C S) (hk : ROk S) :
    Calls Try.prog 41 #[.agg C] w fun e w' => e = .returned (.string ⟨(textR S).toArray⟩) ∧ Below w.heap.size w w' := by
  obtain ⟨W0, hW0⟩ : ∃ W, W = w.alloc (.cells C 68) := ⟨_, rfl⟩
  have hal : Below w.heap.size w W0 := by rw [hW0]; exact (Below.refl _ _).alloc (Nat.le_refl _) _
  have HB := hide hal
  have HO := hide (show W0.heap[w.heap.size]? = some (.cells C 68 (0, 0)) from by rw [hW0]; exact obj_new _ _)
  have HQ := hide (h.below hal)
  have HK := hide hk
  have HS := hide (show TqS W0 S (w.alloc (.cells C 68)) (.int .i64 0) (.string ⟨#[]⟩) (.int .i64 0) from ⟨0, rfl, Nat.zero_le _, rfl, rfl, by rw [hW0]; exact Below.refl _ _⟩)
  clear h hk hal hW0
  go_enter Try.func41, Try.ntmps41
  go_wp2_with fail
  go_loopw [3, 4, 5] (fun nv sv cv wr => TqS W0 S wr nv sv cv) (fun _ _ cv _ => 64 - (intOf cv).toNat)
  case atStart => exact HS.out
  case round =>
    obtain ⟨k, rfl, hk, rfl, rfl, hb⟩ := hrel
    have HBR := hide hb
    rcases Nat.lt_or_ge k 64 with hk64 | hk64
    · have hki : (k : Int) < 64 := by omega
      obtain ⟨v, hv, hsg⟩ := (HQ.out.below hb).L k hk64
      have z1 := obj_cell (obj_below HO.out hb) (1 + k)
      rw [hv] at z1
      have hlen := HK.out.len (k : Int)
      have hroom := HK.out.room
      have hsucc := clsTo_succ S k
      have hcb := clsTo_bytes HK.out k
      have hcl := clsTo_len S k
      have hclb := clB_len HK.out (k : Int)
      have hwhole : clB S (k : Int) = ([ub (k : Int)] ++ num ((S.L (k : Int)).length : Nat)) ++ (S.L (k : Int)).flatMap enB := rfl
      obtain ⟨l, hl⟩ : ∃ l, l = S.L (k : Int) := ⟨_, rfl⟩
      have HL := hide hl
      rw [← hl] at hlen hsg hsucc hwhole
      obtain ⟨A, cap, e, hc1, hc2⟩ := EK.sg_slice hsg
      rw [e] at z1 hsg
      obtain ⟨n, hn⟩ : ∃ n, n = l.length := ⟨_, rfl⟩
      rw [← hn] at z1 hsg hc1 hlen hwhole
      have HN := hide hn
      simp only [maxLen] at hc2
      have hn16 : n ≤ 16 := by omega
      obtain ⟨m, hm⟩ : ∃ m, m = (clsTo S k).length := ⟨_, rfl⟩
      obtain ⟨P0, hP0⟩ : ∃ P, P = (clsTo S k).flatMap (clB S) := ⟨_, rfl⟩
      rw [← hm] at hcl ⊢
      rw [← hP0] at hcb ⊢
      rcases Nat.eq_zero_or_pos n with h0 | h0
      · have hle : l = [] := List.length_eq_zero_iff.1 (by omega)
        rw [if_pos hle, List.append_nil] at hsucc
        have HRES := hide (show TqS W0 S wr (.int .i64 (m : Int)) (.string ⟨P0.toArray⟩) (.int .i64 ((k : Int) + 1)) from ⟨k + 1, rfl, hk64, by rw [hsucc, hm], by rw [hsucc, hP0], hb⟩)
        subst h0
        clear hb hv hsg e hlen hroom hsucc hcb hcl hclb hwhole hl hn hm hP0 hle
        go_wp2_with fail
        exact ⟨HRES.out, by simp only [intOf]; omega⟩
      · have hlne : l ≠ [] := fun e => by rw [e] at hn; simp at hn; omega
        rw [if_neg hlne] at hsucc
        have hn0 : ((n : Int) == 0) = false := by simp; omega
        have hm1 : IntKind.i64.wrap ((m : Int) + 1) = (m : Int) + 1 := by rw [IntKind.wrap_i64]; omega
        obtain ⟨s0, hs0⟩ : ∃ s : ByteArray, s = ⟨P0.toArray⟩ := ⟨_, rfl⟩
        obtain ⟨s1, hs1⟩ : ∃ s : ByteArray, s = ⟨[ub (k : Int)].toArray⟩ := ⟨_, rfl⟩
        obtain ⟨s2, hs2⟩ : ∃ s : ByteArray, s = ⟨(num (n : Int)).toArray⟩ := ⟨_, rfl⟩
        have hnl := num_len (n : Int) (by omega) (by omega)
        have hz1 : s1.size + s2.size ≤ 9223372036854775807 := by rw [hs1, hs2, str_size, str_size]; simp; omega
        have hz2 : s0.size + (s1 ++ s2).size ≤ 9223372036854775807 := by rw [hs0, hs1, hs2, ba_app, str_size, str_size]; simp; omega
        have hs012 : s0 ++ (s1 ++ s2) = ⟨(P0 ++ ([ub (k : Int)] ++ num (n : Int))).toArray⟩ := by rw [hs0, hs1, hs2, ba_app, ba_app]
        rw [← hs0]
        have HS1 := hide hs1
        have HS2 := hide hs2
        have HS012 := hide hs012
        have HCB := hide (show (P0 ++ ([ub (k : Int)] ++ num (n : Int)) ++ l.flatMap enB).length ≤ 65 * 65883 from by rw [List.append_assoc, ← hwhole, List.length_append]; omega)
        have HNEXT := hide (show ∀ W, Below W0.heap.size W0 W → TqS W0 S W (.int .i64 ((m : Int) + 1)) (.string ⟨(P0 ++ ([ub (k : Int)] ++ num (n : Int)) ++ l.flatMap enB).toArray⟩) (.int .i64 ((k : Int) + 1)) from fun W hW => ⟨k + 1, rfl, hk64, by rw [hsucc, List.length_append, ← hm]; simp, by rw [hsucc, List.flatMap_append, ← hP0, List.flatMap_cons, List.flatMap_nil, List.append_nil, List.append_assoc, ← hwhole], hW⟩)
        have HQR := hide (EK.sg_below (show kQ.sg wr B (.slice A n cap) l from hsg) (Below.refl wr.heap.size wr))
        clear hb hv hsg e hlen hroom hsucc hcb hcl hclb hwhole hl hn hm hP0 hs0 hs1 hs2 hs012 hnl hlne
        go_wp2_with fail
        obtain ⟨wq, hwq⟩ : ∃ W, W = wr := ⟨_, rfl⟩
        rw [← hwq] at z1 HBR HQR ⊢
        clear z1 hwq
        refine wp_region_c (tqA w.heap.size k n m A cap C s0) (fun j => #[21, 22, 23, 24, 25, 26, 27, 28, 29, 30, 4].getD j 0) (fun d x w' => ByT wq (k : Int) s0 (d 3) (d 10) (x 3) (x 10) w') (fun qi qv => tqV k n A cap s0 s1 s2 qi qv) (by kernel_rfl) (by kernel_rfl) rfl ⟨⟨(Below.refl _ _).drew, (fun e => by cases e)⟩, fun _ => rfl⟩ ?_ ?_ ?_
        · exact fun u => ⟨fun x v => rfl, fun x v => rfl, fun x v => rfl, fun x v => rfl, fun x v => rfl, fun x v => rfl, fun x v => rfl, fun x v => rfl, fun x v => rfl, fun x v => rfl, fun x v => rfl, trivial⟩
        · refine fun u => ⟨?_, ?_, ?_, ?_, ?_, ?_, ?_, ?_, ?_, ?_, ?_, trivial⟩
          · intro d x w' hS hdi hv hp hcl K hK
            have hS1 : ByT wq (k : Int) s0 (d 3) (d 10) (x 3) (x 10) w' := hS
            have n10 : d 10 = false := Bool.eq_false_iff.2 (fun hz => absurd (hcl 10 0 hz (by kernel_rfl)) (by rw [hdi]; decide))
            have v10 := hS1.v n10
            refine ⟨rfl, ?_⟩
            unfold tqA at hK ⊢
            simp only [v10] at hK ⊢
            go_wp2
            exact hK (.string s0) w' (show ByT wq (k : Int) s0 (d 3) (d 10) (x 3) (.string s0) w' from by rw [← v10]; exact hS1) rfl
          · intro d x w' hS hdi hv hp hcl K hK
            refine ⟨rfl, ?_⟩
            unfold tqA at hK ⊢
            go_wp2
            exact hK (.int .i64 (k : Int)) w' (show ByT wq (k : Int) s0 (d 3) (d 10) (x 3) (x 10) w' from hS) rfl
          · intro d x w' hS hdi hv hp hcl K hK
            have d0 : x 1 = .int .i64 (k : Int) := hv 1 (hp 1 (by kernel_rfl))
            refine ⟨rfl, ?_⟩
            unfold tqA at hK ⊢
            simp only [d0] at hK ⊢
            go_wp2
            exact hK (.int .u8 (k : Int)) w' (show ByT wq (k : Int) s0 (d 3) (d 10) (x 3) (x 10) w' from hS) rfl
          · intro d x w' hS hdi hv hp hcl K hK
            have d0 : x 2 = .int .u8 (k : Int) := hv 2 (hp 2 (by kernel_rfl))
            have hS1 : ByT wq (k : Int) s0 (d 3) (d 10) (x 3) (x 10) w' := hS
            refine ⟨rfl, ?_⟩
            unfold tqA at hK ⊢
            simp only [d0] at hK ⊢
            go_wp2
            exact hK (.slice (some ⟨w'.heap.size, 0, none⟩) 1 1) _ (show ByT wq (k : Int) s0 true (d 10) (.slice (some ⟨w'.heap.size, 0, none⟩) 1 1) (x 10) _ from ⟨hS1.toByS.build, hS1.v⟩) trivial
          · intro d x w' hS hdi hv hp hcl K hK
            have hS1 : ByT wq (k : Int) s0 (d 3) (d 10) (x 3) (x 10) w' := hS
            have yb : d 3 = true := hp 3 (by kernel_rfl)
            rw [yb] at hS1
            obtain ⟨r, e1, hcv⟩ := hS1.toByS.conv (by omega) (by omega)
            rw [← HS1.out] at hcv
            refine ⟨rfl, ?_⟩
            unfold tqA at hK ⊢
            simp only [e1] at hK ⊢
            go_wp2
            exact hK (.string s1) w' (show ByT wq (k : Int) s0 (d 3) (d 10) (.slice (some ⟨r, 0, none⟩) 1 1) (x 10) w' from by rw [← e1]; exact hS) rfl
          · intro d x w' hS hdi hv hp hcl K hK
            refine ⟨rfl, ?_⟩
            unfold tqA at hK ⊢
            go_wp2
            exact hK (.slice A n cap) w' (show ByT wq (k : Int) s0 (d 3) (d 10) (x 3) (x 10) w' from hS) rfl
          · intro d x w' hS hdi hv hp hcl K hK
            have d0 : x 5 = .slice A n cap := hv 5 (hp 5 (by kernel_rfl))
            refine ⟨rfl, ?_⟩
            unfold tqA at hK ⊢
            simp only [d0] at hK ⊢
            go_wp2
            exact hK (.int .i64 (n : Int)) w' (show ByT wq (k : Int) s0 (d 3) (d 10) (x 3) (x 10) w' from hS) rfl
          · intro d x w' hS hdi hv hp hcl K hK
            have d0 : x 6 = .int .i64 (n : Int) := hv 6 (hp 6 (by kernel_rfl))
            have hS1 : ByT wq (k : Int) s0 (d 3) (d 10) (x 3) (x 10) w' := hS
            refine ⟨rfl, ?_⟩
            unfold tqA at hK ⊢
            simp only [d0] at hK ⊢
            go_wp2_with fail
            refine (r3Int_any (n : Int) w' (by omega) (by omega)).mono ?_
            rintro e w3 ⟨rfl, hb3⟩
            rw [← HS2.out]
            exact hK (.string s2) w3 (show ByT wq (k : Int) s0 (d 3) (d 10) (x 3) (x 10) w3 from ⟨hS1.toByS.next hb3, hS1.v⟩) rfl
          · intro d x w' hS hdi hv hp hcl K hK
            have d0 : x 4 = .string s1 := hv 4 (hp 4 (by kernel_rfl))
            have d1 : x 7 = .string s2 := hv 7 (hp 7 (by kernel_rfl))
            refine ⟨rfl, ?_⟩
            unfold tqA at hK ⊢
            simp only [d0, d1] at hK ⊢
            go_wp2
            exact hK (.string (s1 ++ s2)) w' (show ByT wq (k : Int) s0 (d 3) (d 10) (x 3) (x 10) w' from hS) rfl
          · intro d x w' hS hdi hv hp hcl K hK
            have d0 : x 0 = .string s0 := hv 0 (hp 0 (by kernel_rfl))
            have d1 : x 8 = .string (s1 ++ s2) := hv 8 (hp 8 (by kernel_rfl))
            refine ⟨rfl, ?_⟩
            unfold tqA at hK ⊢
            simp only [d0, d1] at hK ⊢
            go_wp2
            exact hK (.string (s0 ++ (s1 ++ s2))) w' (show ByT wq (k : Int) s0 (d 3) (d 10) (x 3) (x 10) w' from hS) rfl
          · intro d x w' hS hdi hv hp hcl K hK
            have d0 : x 9 = .string (s0 ++ (s1 ++ s2)) := hv 9 (hp 9 (by kernel_rfl))
            have hS1 : ByT wq (k : Int) s0 (d 3) (d 10) (x 3) (x 10) w' := hS
            refine ⟨rfl, ?_⟩
            unfold tqA at hK ⊢
            simp only [d0] at hK ⊢
            go_wp2
            exact hK (.string (s0 ++ (s1 ++ s2))) w' (show ByT wq (k : Int) s0 (d 3) true (x 3) (.string (s0 ++ (s1 ++ s2))) w' from ⟨hS1.toByS, fun e => by cases e⟩) rfl
        · intro u hu d x w3 hS hd hv
          have hS1 : ByT wq (k : Int) s0 (d 3) (d 10) (x 3) (x 10) w3 := hS
          have hb3 := hS1.b
          have e10 : x 10 = .string (s0 ++ (s1 ++ s2)) := hv 10 (by decide)
          rw [HS012.out] at e10
          have HB3 := hide (HBR.out.trans (hb3.mono HBR.out.size))
          have HSG := hide (EK.sg_below HQR.out hb3)
          obtain ⟨PP, hPP⟩ : ∃ P, P = P0 ++ ([ub (k : Int)] ++ num (n : Int)) := ⟨_, rfl⟩
          rw [← hPP] at e10 HCB HNEXT
          have HST := hide (show TrS w3 PP l w3 (.string ⟨PP.toArray⟩) (.int .i64 0) from ⟨0, rfl, Nat.zero_le _, by simp, Below.refl _ _⟩)
          clear hS hS1 hd hv hu hb3 hPP HS1 HS2 HS012 hz1 hz2 HQR
          unfold tqA
          simp only [e10]
          clear e10
          go_wp2_with fail
          go_loopw [4, 7] (fun sv iv wr => TrS w3 PP l wr sv iv) (fun _ iv _ => n - (intOf iv).toNat)
          case atStart => exact HST.out
          case round =>
            obtain ⟨i, rfl, hi, rfl, hb4⟩ := hrel
            rcases Nat.lt_or_ge i n with hil | hil
            · have hil' : i < l.length := by have := HN.out; omega
              have hB4 := HB3.out.trans (hb4.mono HB3.out.size)
              obtain ⟨b, o, c', e1, -, -, -, -, hcell⟩ := EK.sg_cells (EK.sg_below HSG.out hb4) hil'
              rw [← HN.out] at e1
              injection e1 with e1a e1b e1c
              subst e1a e1c
              have q0 := hcell 0 (by decide)
              have q1 := hcell 1 (by decide)
              have q2 := hcell 2 (by decide)
              have hxm := HK.out.en (c := (k : Int)) (e := l[i]) (by rw [← HL.out]; exact List.getElem_mem hil')
              have htake : (l.take (i + 1)).flatMap enB = (l.take i).flatMap enB ++ enB l[i] := by
                rw [List.take_add_one, List.getElem?_eq_getElem hil', List.flatMap_append]
                simp
              have hlen9 : (PP ++ (l.take (i + 1)).flatMap enB).length ≤ 65 * 65883 := by
                have h1 := HCB.out
                have h2 : l.flatMap enB = (l.take (i + 1)).flatMap enB ++ (l.drop (i + 1)).flatMap enB := by rw [← List.flatMap_append, List.take_append_drop]
                rw [h2, ← List.append_assoc, List.length_append] at h1
                omega
              obtain ⟨x9, hx9⟩ : ∃ x, x = l[i] := ⟨_, rfl⟩
              rw [← hx9] at q0 q1 q2 hxm htake
              obtain ⟨xid, xb, xr⟩ := x9
              simp only [kQ, eC, List.getElem?_cons_zero, List.getElem?_cons_succ, Nat.add_zero] at q0 q1 q2
              obtain ⟨⟨hx1, hx2⟩, hx3, hx4⟩ := hxm
              simp only at hx1 hx2 hx3 hx4
              rw [htake] at hlen9
              obtain ⟨Q0, hQ0⟩ : ∃ P, P = PP ++ (l.take i).flatMap enB := ⟨_, rfl⟩
              rw [← List.append_assoc, ← hQ0] at hlen9
              rw [← hQ0]
              obtain ⟨t0, ht0⟩ : ∃ s : ByteArray, s = ⟨Q0.toArray⟩ := ⟨_, rfl⟩
              rw [← ht0]
              have HC1 := hide (r3Int_any xid wr (by omega) (by omega))
              obtain ⟨t1, ht1⟩ : ∃ s : ByteArray, s = ⟨(num xid).toArray⟩ := ⟨_, rfl⟩
              rw [← ht1] at HC1
              have hii : (i : Int) < (n : Int) := by omega
              unfold enB at hlen9
              simp only [List.length_append] at hlen9
              have hz1 : t0.size + t1.size ≤ 9223372036854775807 := by rw [ht0, ht1, str_size, str_size]; omega
              cases xb
              · simp only [Bool.false_eq_true, if_false, List.length_cons] at hlen9
                have HC2 := hide (fun W => r3Text_any xr W (by omega))
                obtain ⟨t2, ht2⟩ : ∃ s : ByteArray, s = ⟨(textB xr.data.toList).toArray⟩ := ⟨_, rfl⟩
                rw [← ht2] at HC2
                have hz2 : (⟨#[0]⟩ : ByteArray).size + t2.size ≤ 9223372036854775807 := by rw [show (⟨#[0]⟩ : ByteArray) = ⟨[0].toArray⟩ from rfl, ht2, str_size, str_size]; simp; omega
                have hz3 : (t0 ++ t1).size + ((⟨#[0]⟩ : ByteArray) ++ t2).size ≤ 9223372036854775807 := by
                  rw [ht0, ht1, ht2, ba_app, show (⟨#[0]⟩ : ByteArray) = ⟨[0].toArray⟩ from rfl, ba_app, str_size, str_size, List.length_append]
                  simp
                  omega
                have HRES := hide (fun (W : World) (hW : Below wr.heap.size wr W) => show TrS w3 PP l W (.string (t0 ++ t1 ++ ((⟨#[0]⟩ : ByteArray) ++ t2))) (.int .i64 ((i : Int) + 1)) from ⟨i + 1, rfl, hil', by
                  rw [htake, ← List.append_assoc, ← hQ0, ht0, ht1, ht2, show (⟨#[0]⟩ : ByteArray) = ⟨[0].toArray⟩ from rfl, ba_app, ba_app, ba_app]
                  unfold enB
                  simp, hb4.trans (hW.mono hb4.size)⟩)
                clear hcell e1b hx9 hx1 hx2 hx3 hx4 hlen9 htake hQ0 ht0 ht1 ht2 hil' hb4 hB4
                go_wp2_with fail
                refine HC1.out.mono ?_
                rintro e w5 ⟨rfl, hb5⟩
                have q1 := (hb5.cell (World.block_lt_of_cell? _ _ q1)).trans q1
                have q2 := (hb5.cell (World.block_lt_of_cell? _ _ q2)).trans q2
                have HB5 := hide hb5
                clear hb5 q0
                go_wp2_with fail
                refine (HC2.out w5).mono ?_
                rintro e w6 ⟨rfl, hb6⟩
                have HX := hide (HRES.out w6 (HB5.out.trans (hb6.mono HB5.out.size)))
                clear hb6 q1 q2
                go_wp2_with fail
                exact ⟨HX.out, by simp only [intOf]; omega⟩
              · simp only [if_true, List.length_singleton] at hlen9
                have hz2 : (t0 ++ t1).size + (⟨#[1]⟩ : ByteArray).size ≤ 9223372036854775807 := by
                  rw [ht0, ht1, ba_app, show (⟨#[1]⟩ : ByteArray) = ⟨[1].toArray⟩ from rfl, str_size, str_size, List.length_append]
                  simp
                  omega
                have HRES := hide (fun (W : World) (hW : Below wr.heap.size wr W) => show TrS w3 PP l W (.string (t0 ++ t1 ++ (⟨#[1]⟩ : ByteArray))) (.int .i64 ((i : Int) + 1)) from ⟨i + 1, rfl, hil', by
                  rw [htake, ← List.append_assoc, ← hQ0, ht0, ht1, show (⟨#[1]⟩ : ByteArray) = ⟨[1].toArray⟩ from rfl, ba_app, ba_app]
                  unfold enB
                  simp, hb4.trans (hW.mono hb4.size)⟩)
                clear hcell e1b hx9 hx1 hx2 hx3 hx4 hlen9 htake hQ0 ht0 ht1 hil' hb4 hB4
                go_wp2_with fail
                refine HC1.out.mono ?_
                rintro e w5 ⟨rfl, hb5⟩
                have q1 := (hb5.cell (World.block_lt_of_cell? _ _ q1)).trans q1
                have HX := hide (HRES.out w5 hb5)
                clear hb5 q0 q2
                go_wp2_with fail
                exact ⟨HX.out, by simp only [intOf]; omega⟩
            · have hie : i = l.length := by have := HN.out; omega
              have e9 : l.take i = l := List.take_of_length_le (by omega)
              rw [e9]
              have HX := hide (HNEXT.out wr (HB3.out.trans (hb4.mono HB3.out.size)))
              have hii : ¬ (i : Int) < (n : Int) := by omega
              clear hb4 e9 hie
              go_wp2_with fail
              exact ⟨HX.out, by simp only [intOf]; omega⟩
    · obtain rfl : k = 64 := by omega
      have hcb := clsTo_bytes HK.out 64
      have hcl := clsTo_len S 64
      have hroom := HK.out.room
      have hwhole : textR S = ([ub S.room] ++ num ((clsTo S 64).length : Nat)) ++ (clsTo S 64).flatMap (clB S) := rfl
      obtain ⟨m, hm⟩ : ∃ m, m = (clsTo S 64).length := ⟨_, rfl⟩
      obtain ⟨P0, hP0⟩ : ∃ P, P = (clsTo S 64).flatMap (clB S) := ⟨_, rfl⟩
      rw [← hm] at hcl hwhole ⊢
      rw [← hP0] at hcb hwhole ⊢
      obtain ⟨rm, hrm⟩ : ∃ r, r = S.room := ⟨_, rfl⟩
      rw [← hrm] at hroom hwhole
      have HRM := hide (show C[0]? = some (.int .i64 rm) from by rw [hrm]; exact HQ.out.rm)
      obtain ⟨s0, hs0⟩ : ∃ s : ByteArray, s = ⟨P0.toArray⟩ := ⟨_, rfl⟩
      obtain ⟨s1, hs1⟩ : ∃ s : ByteArray, s = ⟨[ub rm].toArray⟩ := ⟨_, rfl⟩
      obtain ⟨s2, hs2⟩ : ∃ s : ByteArray, s = ⟨(num (m : Int)).toArray⟩ := ⟨_, rfl⟩
      have hnl := num_len (m : Int) (by omega) (by omega)
      have hz1 : s1.size + s2.size ≤ 9223372036854775807 := by rw [hs1, hs2, str_size, str_size]; simp; omega
      have hz2 : (s1 ++ s2).size + s0.size ≤ 9223372036854775807 := by rw [hs0, hs1, hs2, ba_app, str_size, str_size]; simp; omega
      have hs012 : (s1 ++ s2) ++ s0 = ⟨(([ub rm] ++ num (m : Int)) ++ P0).toArray⟩ := by rw [hs0, hs1, hs2, ba_app, ba_app]
      have HTX := hide (show (⟨(textR S).toArray⟩ : ByteArray) = (s1 ++ s2) ++ s0 from by rw [hwhole, hs012])
      rw [← hs0]
      have HS1 := hide hs1
      have HS2 := hide hs2
      clear hs012 hs0 hs1 hs2 hnl hcb hwhole hm hP0 hrm
      go_wp2_with fail
      obtain ⟨wq, hwq⟩ : ∃ W, W = wr := ⟨_, rfl⟩
      rw [← hwq] at HBR hb ⊢
      have HNQ := hide (obj_below HO.out hb)
      clear hb hwq
      refine wp_region_c (tzA w.heap.size m C s0) (fun j => #[61, 62, 63, 64, 65, 66, 67, 68, 69, 70, 2].getD j 0) (fun d x w' => ByS wq rm (d 3) (x 3) w') (fun qi qv => tzV w.heap.size m rm s0 s1 s2 qi qv) (by kernel_rfl) (by kernel_rfl) rfl ⟨(Below.refl _ _).drew, (fun e => by cases e)⟩ ?_ ?_ ?_
      · exact fun u => ⟨fun x v => rfl, fun x v => rfl, fun x v => rfl, fun x v => rfl, fun x v => rfl, fun x v => rfl, fun x v => rfl, fun x v => rfl, fun x v => rfl, fun x v => rfl, fun x v => rfl, trivial⟩
      · refine fun u => ⟨?_, ?_, ?_, ?_, ?_, ?_, ?_, ?_, ?_, ?_, ?_, trivial⟩
        · intro d x w' hS hdi hv hp hcl K hK
          refine ⟨rfl, ?_⟩
          unfold tzA at hK ⊢
          go_wp2
          exact hK (.pointer (some ⟨w.heap.size, 0, none⟩)) w' (show ByS wq rm (d 3) (x 3) w' from hS) rfl
        · intro d x w' hS hdi hv hp hcl K hK
          have d0 : x 0 = .pointer (some ⟨w.heap.size, 0, none⟩) := hv 0 (hp 0 (by kernel_rfl))
          have hS1 : ByS wq rm (d 3) (x 3) w' := hS
          have z0 := obj_cell (obj_below HNQ.out hS1.b) 0
          rw [HRM.out] at z0
          refine ⟨rfl, ?_⟩
          unfold tzA at hK ⊢
          simp only [d0] at hK ⊢
          go_wp2
          exact hK (.int .i64 rm) w' (show ByS wq rm (d 3) (x 3) w' from hS) rfl
        · intro d x w' hS hdi hv hp hcl K hK
          have d0 : x 1 = .int .i64 rm := hv 1 (hp 1 (by kernel_rfl))
          refine ⟨rfl, ?_⟩
          unfold tzA at hK ⊢
          simp only [d0] at hK ⊢
          go_wp2
          exact hK (.int .u8 rm) w' (show ByS wq rm (d 3) (x 3) w' from hS) rfl
        · intro d x w' hS hdi hv hp hcl K hK
          have d0 : x 2 = .int .u8 rm := hv 2 (hp 2 (by kernel_rfl))
          have hS1 : ByS wq rm (d 3) (x 3) w' := hS
          refine ⟨rfl, ?_⟩
          unfold tzA at hK ⊢
          simp only [d0] at hK ⊢
          go_wp2
          exact hK (.slice (some ⟨w'.heap.size, 0, none⟩) 1 1) _ (show ByS wq rm true (.slice (some ⟨w'.heap.size, 0, none⟩) 1 1) _ from hS1.build) trivial
        · intro d x w' hS hdi hv hp hcl K hK
          have hS1 : ByS wq rm (d 3) (x 3) w' := hS
          have yb : d 3 = true := hp 3 (by kernel_rfl)
          rw [yb] at hS1
          obtain ⟨r, e1, hcv⟩ := hS1.conv (by omega) (by omega)
          rw [← HS1.out] at hcv
          refine ⟨rfl, ?_⟩
          unfold tzA at hK ⊢
          simp only [e1] at hK ⊢
          go_wp2
          exact hK (.string s1) w' (show ByS wq rm (d 3) (.slice (some ⟨r, 0, none⟩) 1 1) w' from by rw [← e1]; exact hS) rfl
        · intro d x w' hS hdi hv hp hcl K hK
          refine ⟨rfl, ?_⟩
          unfold tzA at hK ⊢
          go_wp2
          exact hK (.int .i64 (m : Int)) w' (show ByS wq rm (d 3) (x 3) w' from hS) rfl
        · intro d x w' hS hdi hv hp hcl K hK
          have d0 : x 5 = .int .i64 (m : Int) := hv 5 (hp 5 (by kernel_rfl))
          have hS1 : ByS wq rm (d 3) (x 3) w' := hS
          refine ⟨rfl, ?_⟩
          unfold tzA at hK ⊢
          simp only [d0] at hK ⊢
          go_wp2_with fail
          refine (r3Int_any (m : Int) w' (by omega) (by omega)).mono ?_
          rintro e w3 ⟨rfl, hb3⟩
          rw [← HS2.out]
          exact hK (.string s2) w3 (show ByS wq rm (d 3) (x 3) w3 from hS1.next hb3) rfl
        · intro d x w' hS hdi hv hp hcl K hK
          have d0 : x 4 = .string s1 := hv 4 (hp 4 (by kernel_rfl))
          have d1 : x 6 = .string s2 := hv 6 (hp 6 (by kernel_rfl))
          refine ⟨rfl, ?_⟩
          unfold tzA at hK ⊢
          simp only [d0, d1] at hK ⊢
          go_wp2
          exact hK (.string (s1 ++ s2)) w' (show ByS wq rm (d 3) (x 3) w' from hS) rfl
        · intro d x w' hS hdi hv hp hcl K hK
          refine ⟨rfl, ?_⟩
          unfold tzA at hK ⊢
          go_wp2
          exact hK (.string s0) w' (show ByS wq rm (d 3) (x 3) w' from hS) rfl
        · intro d x w' hS hdi hv hp hcl K hK
          have d0 : x 7 = .string (s1 ++ s2) := hv 7 (hp 7 (by kernel_rfl))
          have d1 : x 8 = .string s0 := hv 8 (hp 8 (by kernel_rfl))
          refine ⟨rfl, ?_⟩
          unfold tzA at hK ⊢
          simp only [d0, d1] at hK ⊢
          go_wp2
          exact hK (.string ((s1 ++ s2) ++ s0)) w' (show ByS wq rm (d 3) (x 3) w' from hS) rfl
        · intro d x w' hS hdi hv hp hcl K hK
          have d0 : x 9 = .string ((s1 ++ s2) ++ s0) := hv 9 (hp 9 (by kernel_rfl))
          refine ⟨rfl, ?_⟩
          unfold tzA at hK ⊢
          simp only [d0] at hK ⊢
          go_wp2
          exact hK (.string ((s1 ++ s2) ++ s0)) w' (show ByS wq rm (d 3) (x 3) w' from hS) rfl
      · intro u hu d x w3 hS hd hv
        have hS1 : ByS wq rm (d 3) (x 3) w3 := hS
        have hb3 := hS1.b
        have e10 : x 10 = .string ((s1 ++ s2) ++ s0) := hv 10 (by decide)
        have HB3 := hide (HB.out.trans ((HBR.out.trans (hb3.mono HBR.out.size)).mono HB.out.size))
        clear hS hS1 hd hv hu hb3
        unfold tzA
        simp only [e10]
        clear e10
        go_wp2
        go_ret
        exact ⟨by rw [HTX.out]; rfl, HB3.out⟩
end Go.Proofs.Ythcnoamgkkbkcaa
