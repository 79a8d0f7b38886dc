/- A join of 3 texts of this claim: Nt8, Ref12Enc, FrSame. Conditions: none of their own. -/
import Derived.Test.YtljmaicobafgkaaN6
import Derived.Test.YtljmaicobafgkaaN7
import Derived.Test.YtljmaicobafgkaaN5
import Derived.Test.YtljmaicobafgkaaN3
import Derived.Test.YtljmaicobafgkaaN1
section
/- Chapter 13, net: Spoil. -/
namespace Go.Proofs.Ytljmaicobafgkaa
open Go.RowKit

def spB (b : UInt8) (y : Int) : UInt8 := UInt8.ofNat (b.toNat ^^^ (y % 256).toNat)
def spL (s : List UInt8) (at_ y : Int) : List UInt8 := s.set (atI at_ s.length) (spB (s[atI at_ s.length]?.getD 0) y)
def spP (p : Pcl) (at_ y : Int) : Pcl := ⟨p.a, p.b, spL p.s at_ y⟩
def spN (N : NetS) (k : Nat) (hk : k < N.way.length) (at_ y : Int) : NetS := ⟨N.n, N.way.set k (spP N.way[k] at_ y), N.cuts⟩
theorem xor_lt (a b : Nat) (ha : a < 256) (hb : b < 256) : a ^^^ b < 256 := Nat.xor_lt_two_pow (n := 8) ha hb
theorem spB_bits (b : UInt8) (y : Int) : bits .xor .u8 (b.toNat : Int) (y % 256) = ((spB b y).toNat : Int) := by
  have h0 := Int.emod_nonneg y (b := 256) (by decide)
  have h1 := Int.emod_lt_of_pos y (b := 256) (by decide)
  obtain ⟨n, hn⟩ := Int.eq_ofNat_of_zero_le h0
  have hb := b.toNat_lt
  rw [hn]
  unfold spB
  rw [hn, Int.toNat_natCast]
  have hn2 : n < 256 := by omega
  have := xor_lt b.toNat n hb hn2
  rw [UInt8.toNat_ofNat', Nat.mod_eq_of_lt (by omega)]
  exact xor_u8 _ _ hb hn2
theorem wv_set {l : List Pcl} {k : Nat} (hk : k < l.length) (s : List UInt8) : wayVals (l.set k ⟨l[k].a, l[k].b, s⟩) = (wayVals l).set (k * 3 + 2) (.string ⟨s.toArray⟩) := by
  have e : l = l.take k ++ (l[k] :: l.drop (k + 1)) := by rw [List.getElem_cons_drop, List.take_append_drop]
  have h1 : wayVals l = wayVals (l.take k) ++ (l[k].cells ++ wayVals (l.drop (k + 1))) := by
    conv => lhs; rw [e]
    rw [wv_app]
    simp only [wayVals, List.flatMap_cons]
  have h2 : wayVals (l.set k ⟨l[k].a, l[k].b, s⟩) = wayVals (l.take k) ++ ((⟨l[k].a, l[k].b, s⟩ : Pcl).cells ++ wayVals (l.drop (k + 1))) := by
    rw [List.set_eq_take_append_cons_drop, if_pos hk, wv_app]
    simp only [wayVals, List.flatMap_cons]
  have h3 : (wayVals (l.take k)).length = k * 3 := by rw [wv_len, List.length_take, Nat.min_eq_left (by omega)]
  rw [h1, h2, List.set_append_right _ _ (by omega), h3, show k * 3 + 2 - k * 3 = 2 from by omega]
  rfl
theorem row_setS {w : World} {r cap : Nat} {l : List Pcl} (h : w.ownsRow 0 214 3 (.slice (some ⟨r, 0, none⟩) l.length cap) l.length (wayVals l)) {k : Nat} (hk : k < l.length) (s : List UInt8) :
    (w.setCell ⟨r, k * 3 + 2, none⟩ (.string ⟨s.toArray⟩)).ownsRow 0 214 3 (.slice (some ⟨r, 0, none⟩) l.length cap) (l.set k ⟨l[k].a, l[k].b, s⟩).length (wayVals (l.set k ⟨l[k].a, l[k].b, s⟩)) := by
  rcases h.2 with ⟨e, _⟩ | ⟨g', cap', cur, e, h0, hc, hn, hm, hs, ht⟩
  · cases e
  cases e
  rw [List.length_set]
  refine ⟨by rw [wv_len, List.length_set], .inr ⟨r, cap, cur.setIfInBounds (k * 3 + 2) (.string ⟨s.toArray⟩), rfl, h0, obj_set hc _ _, hn, hm, by simpa using hs, ?_⟩⟩
  rw [wv_set hk, ← ht, Array.toList_setIfInBounds, List.take_set]
theorem row_frozen {w : World} {r cap n : Nat} {xs : List Value} (h : w.ownsRow 0 214 3 (.slice (some ⟨r, 0, none⟩) n cap) n xs) (j : Nat) : w.frozen? ⟨r, j, none⟩ = false := by
  rcases h.2 with ⟨e, _⟩ | ⟨g', cap', cur, e, h0, hc, hn, hm, hs, ht⟩
  · cases e
  cases e
  exact obj_frozen hc j
set_option maxHeartbeats 4000000 in
set_option maxRecDepth 100000 in
theorem spl1_any {w : World} {g c bn b2 b3 r cap : Nat} {N : NetS} (h : NT w g (.slice (some ⟨r, 0, none⟩) N.way.length cap) c N) (hbn : w.heap[bn]? = some (.cells #[.pointer (some ⟨g, 0, none⟩)] 107 (0, 0))) (at_ y : Int)
    (hb2 : w.heap[b2]? = some (.cells #[.int .i64 at_] 3 (0, 0))) (hb3 : w.heap[b3]? = some (.cells #[.int .i64 y] 3 (0, 0))) {k : Nat} (hk : k < N.way.length) (hs0 : 0 < N.way[k].s.length) (hs : N.way[k].s.length ≤ 1073741824) :
    Calls Try.prog 142 #[.int .i64 (k : Int), .pointer (some ⟨bn, 0, none⟩), .pointer (some ⟨b2, 0, none⟩), .pointer (some ⟨b3, 0, none⟩)] w fun e w' => e = .returned (.tuple #[]) ∧ NT w' g (.slice (some ⟨r, 0, none⟩) N.way.length cap) c (spN N k hk at_ y) ∧ Fr (fun j => j = r) w w' := by
  obtain ⟨nn, l, L⟩ := N
  simp only at h hk hs0 hs ⊢
  obtain ⟨p, hpk⟩ : ∃ p, p = l[k] := ⟨_, rfl⟩
  have HPK := hide (show spN ⟨nn, l, L⟩ k hk at_ y = ⟨nn, l.set k (spP p at_ y), L⟩ from by rw [hpk]; rfl)
  rw [HPK.out]
  rw [← hpk] at hs0 hs
  have hcap := row_cap h.2.1
  have hcm : cap ≤ 9223372036854775807 := by have := hcap.2; simp only [maxLen] at this; omega
  have hca := hcap.1
  obtain ⟨p0, p1, p2⟩ := row_cells h.2.1 hk
  rw [← hpk] at p2
  have HPL := hide hpk
  clear p0 p1 hpk hcap
  obtain ⟨o, ho⟩ : ∃ o : ByteArray, o = ⟨p.s.toArray⟩ := ⟨_, rfl⟩
  rw [← ho] at p2
  have hol : o.data.toList = p.s := by rw [ho]
  have hos : o.size = p.s.length := by rw [size_list, hol]
  have z0 := obj_cell hbn 0
  have g1 := obj_cell h.1 1
  simp only [List.getElem?_toArray, List.getElem?_cons_zero, List.getElem?_cons_succ] at z0 g1
  have HW := hide (buf_below w o (Nat.le_refl _))
  have HBF := hide (buf_new w o)
  have a2 := obj_cell (obj_below hb2 HW.out) 0
  have a3 := obj_cell (obj_below hb3 HW.out) 0
  have a0 := obj_cell (obj_below hbn HW.out) 0
  have a1 := obj_cell (obj_below h.1 HW.out) 1
  simp only [List.getElem?_toArray, List.getElem?_cons_zero, List.getElem?_cons_succ] at a0 a1 a2 a3
  have hcv := conv_to w o
  obtain ⟨n, hn⟩ : ∃ n, n = o.size := ⟨_, rfl⟩
  rw [← hn] at hcv hos
  rw [← hos] at hs0 hs
  have HN := hide hn
  have hr := tmod_rng at_ hs0
  obtain ⟨m, hmd⟩ : ∃ m, m = atI at_ n := ⟨_, rfl⟩
  have hat : (at_.tmod n + n) % n = (m : Int) := by rw [Int.add_emod_right, hmd]; exact atI_eq at_ hs0
  have hmn : m < n := by rw [hmd]; exact atI_lt at_ hs0
  have hml : m < o.data.toList.length := by rw [← size_list, ← HN.out]; exact hmn
  have b4 := HBF.out.cell hml
  have t4 := HBF.out.thawed hml
  have hmd2 : m < o.data.size := by simpa using hml
  have hz := spB_bits (o.data[m]'hmd2) y
  rw [Array.getElem_toList] at b4
  have HMD := hide hmd
  clear hmd
  generalize grownCap w n 0 5 = gc at hcv
  have HO := hide hol
  have HOS := hide hos
  have HOO := hide ho
  have HH := hide h
  have HB0 := hide hbn
  clear hn hol hos ho h hbn hb2 hb3
  go_enter Try.func142, Try.ntmps142
  go_wp2_with fail
  refine wp_stl 8 (by kernel_rfl) (by kernel_rfl) ?_
  simp only [List.take_succ_cons, List.take_zero, List.drop_succ_cons, List.drop_zero]
  repeat still_step
  refine wpStill_nil ?_
  generalize hz2 : spB (o.data[m]'hmd2) y = z at hz
  go_wp2_with fail
  obtain ⟨W2, hW2⟩ : ∃ W2, W2 = (Lib.bytesWorld w 5 o).setCell ⟨w.heap.size, m, none⟩ (.int .u8 (z.toNat : Int)) := ⟨_, rfl⟩
  rw [hz, ← hW2]
  have hb2 : Below w.heap.size w W2 := by rw [hW2]; exact HW.out.setCell (Nat.le_refl _) _
  have hbf2 : Buf W2 w.heap.size (o.data.toList.set m z) := by rw [hW2]; exact HBF.out.set z
  have hn2 := HH.out.below hb2
  have hbn2 := obj_below HB0.out hb2
  clear hW2 a0 a1 a2 a3 b4 t4 hz hcv z0 g1 p2
  have a0 := obj_cell hbn2 0
  have a1 := obj_cell hn2.1 1
  simp only [List.getElem?_toArray, List.getElem?_cons_zero, List.getElem?_cons_succ] at a0 a1
  obtain ⟨p0, p1, p2⟩ := row_cells hn2.2.1 hk
  have hcl : (o.data.toList.set m z).length = n := by rw [List.length_set, ← size_list, HN.out]
  have hcv := (hbf2.drew.drew).conv gc
  rw [hcl] at hcv
  have hst : (⟨(o.data.toList.set m z).toArray⟩ : ByteArray) = ⟨(spP p at_ y).s.toArray⟩ := by
    have e1 := HMD.out
    have e2 := HO.out
    have e3 := HOS.out
    congr 2
    show o.data.toList.set m z = spL p.s at_ y
    rw [← hz2]
    unfold spL
    rw [← e3, ← e1]
    have hml2 : m < p.s.length := by rw [← e2]; exact hml
    rw [List.getElem?_eq_getElem hml2, Option.getD_some, ← Array.getElem_toList]
    simp only [e2]
  rw [hst] at hcv
  have tz := row_frozen hn2.2.1 (k * 3 + 2)
  have HN2 := hide hn2
  have HB2 := hide hb2
  clear hbn2 hbf2 hst hz2 hcl p0 p1 hat hn2 hb2
  refine wp_stl 9 (by kernel_rfl) (by kernel_rfl) ?_
  simp only [List.take_succ_cons, List.take_zero, List.drop_succ_cons, List.drop_zero]
  repeat still_step
  refine wpStill_nil ?_
  go_wp2_with fail
  go_end0
  have hrow := row_setS HN2.out.2.1 hk (spP p at_ y).s
  rw [show (⟨l[k].a, l[k].b, (spP p at_ y).s⟩ : Pcl) = spP p at_ y from by rw [← HPL.out]; rfl] at hrow
  have F := ((Fr.refl (fun j => j = r) W2).setCell (p := ⟨r, k * 3 + 2, none⟩) (fun _ => rfl) (.string ⟨(spP p at_ y).s.toArray⟩)).drew.drew
  refine ⟨rfl, ⟨F.obj HN2.out.1 (fun (e : g = r) => HN2.out.row_ne (by rw [e]; rfl)), ?_, HN2.out.2.2.fr F (fun (e : c = r) => HN2.out.row_ne_map (by rw [e]; rfl))⟩, (Fr.of_below (F := fun j => j = r) HB2.out).trans F (fun i _ e => e)⟩
  show World.ownsRow _ 0 214 3 (.slice (some ⟨r, 0, none⟩) l.length cap) _ _
  exact hrow
set_option maxHeartbeats 4000000 in
set_option maxRecDepth 100000 in
theorem spoil_nil (i a y : Int) (w : World) : Calls Try.prog 80 #[.pointer none, .int .i64 i, .int .i64 a, .int .i64 y] w fun e w' => e = .returned (.bool false) ∧ Below w.heap.size w w' := by
  have HB := hide ((((Below.refl w.heap.size w).alloc (Nat.le_refl _) (.cells #[.pointer none] 107)).alloc (by simp) (.cells #[.int .i64 a] 3)).alloc (by simp only [World.size_alloc]; omega) (.cells #[.int .i64 y] 3))
  go_enter Try.func80, Try.ntmps80
  go_wp2_with fail
  refine (pick_142_nil _ i _ _ _).mono ?_
  rintro e w1 ⟨rfl, rfl⟩
  go_wp2
  go_ret
  exact ⟨rfl, HB.out⟩
set_option maxHeartbeats 4000000 in
set_option maxRecDepth 100000 in
theorem spoil_off {w : World} {g c : Nat} {v : Value} {N : NetS} (hN : NT w g v c N) (h0 : N.way.length = 0) (i a y : Int) : Calls Try.prog 80 #[.pointer (some ⟨g, 0, none⟩), .int .i64 i, .int .i64 a, .int .i64 y] w fun e w' => e = .returned (.bool false) ∧ Below w.heap.size w w' := by
  have hb := (((Below.refl w.heap.size w).alloc (Nat.le_refl _) (.cells #[.pointer (some ⟨g, 0, none⟩)] 107)).alloc (by simp) (.cells #[.int .i64 a] 3)).alloc (by simp only [World.size_alloc]; omega) (.cells #[.int .i64 y] 3)
  have HP := hide (fun c1 c2 c3 => pick_142_off (hN.below hb) h0 i c1 c2 c3)
  have HB := hide hb
  clear hN hb h0
  go_enter Try.func80, Try.ntmps80
  go_wp2_with fail
  refine (HP.out _ _ _).mono ?_
  rintro e w1 ⟨rfl, rfl⟩
  go_wp2
  go_ret
  exact ⟨rfl, HB.out⟩
set_option maxHeartbeats 4000000 in
set_option maxRecDepth 100000 in
theorem spoil_any {w : World} {g c r cap : Nat} {N : NetS} (hN : NT w g (.slice (some ⟨r, 0, none⟩) N.way.length cap) c N) (h0 : 0 < N.way.length) (hl : N.way.length ≤ 1048576) (i a y : Int)
    (hs0 : 0 < (N.way[atI i N.way.length]'(atI_lt i h0)).s.length) (hs : (N.way[atI i N.way.length]'(atI_lt i h0)).s.length ≤ 1073741824) : Calls Try.prog 80 #[.pointer (some ⟨g, 0, none⟩), .int .i64 i, .int .i64 a, .int .i64 y] w fun e w' =>
    e = .returned (.bool true) ∧ NT w' g (.slice (some ⟨r, 0, none⟩) N.way.length cap) c (spN N (atI i N.way.length) (atI_lt i h0) a y) ∧ Fr (fun j => j = r) w w' := by
  obtain ⟨W, hW⟩ : ∃ W, W = ((w.alloc (.cells #[.pointer (some ⟨g, 0, none⟩)] 107)).alloc (.cells #[.int .i64 a] 3)).alloc (.cells #[.int .i64 y] 3) := ⟨_, rfl⟩
  have hb : Below w.heap.size w W := hW ▸ (((Below.refl w.heap.size w).alloc (Nat.le_refl _) (.cells #[.pointer (some ⟨g, 0, none⟩)] 107)).alloc (by simp) (.cells #[.int .i64 a] 3)).alloc (by simp only [World.size_alloc]; omega) (.cells #[.int .i64 y] 3)
  have o0 : W.heap[w.heap.size]? = some (.cells #[.pointer (some ⟨g, 0, none⟩)] 107 (0, 0)) := hW ▸ obj_alloc (obj_alloc (obj_new _ _) _) _
  have o1 : W.heap[w.heap.size + 1]? = some (.cells #[.int .i64 a] 3 (0, 0)) := hW ▸ obj_alloc (obj_new' w _ _) _
  have o2 : W.heap[w.heap.size + 1 + 1]? = some (.cells #[.int .i64 y] 3 (0, 0)) := hW ▸ (by
    have := obj_new' (w.alloc (.cells #[.pointer (some ⟨g, 0, none⟩)] 107)) (.cells #[.int .i64 a] 3) (.cells #[.int .i64 y] 3)
    rwa [World.size_alloc] at this)
  have hN2 := hN.below hb
  have HC := hide (pick_142 hN2 h0 hl i _ _ _ (spl1_any hN2 o0 a y o1 o2 (atI_lt i h0) hs0 hs))
  have HB := hide hb
  have HWE := hide hW
  have hr := row_lt hN.2.1 (k := r) rfl
  clear hW o0 o1 o2 hN hN2 hb hs0 hs
  go_enter Try.func80, Try.ntmps80
  go_wp2_with fail
  rw [← HWE.out]
  refine HC.out.mono ?_
  rintro e w1 ⟨rfl, hN1, hf⟩
  have HF := hide ((Fr.of_below (F := fun j => j = r) HB.out).trans hf (fun i hi e => e))
  have HN1 := hide hN1
  clear hN1 hf HC
  go_wp2
  go_ret
  exact ⟨rfl, HN1.out, HF.out⟩
end Go.Proofs.Ytljmaicobafgkaa
end
section
/- Layer 12's reference: Encode, whole. -/
namespace Go.Proofs.Ytljmaicobafgkaa
open Go.RowKit

theorem conv3 {w : World} {g : Nat} {kd fr tt : Int} (h : w.heap[g]? = some (.cells #[.int .u8 kd, .int .u8 fr, .int .u8 tt] 5 (0, 0))) (h0 : 0 ≤ kd) (h1 : kd ≤ 255) (h2 : 0 ≤ fr) (h3 : fr ≤ 255) (h4 : 0 ≤ tt) (h5 : tt ≤ 255) :
    (convert 77 9 (.slice (some ⟨g, 0, none⟩) 3 3)).run Try.prog w = .ok (.string ⟨[ub kd, ub fr, ub tt].toArray⟩) w := by
  refine conv_str [ub kd, ub fr, ub tt] rfl (fun ad e j u hu => ?_) (fun h => by simp at h)
  cases e
  rw [add_plain', Nat.zero_add, obj_cell h j, ← hu]
  match j with
  | 0 => simp [byteVals, ub_small h0 (by omega)]
  | 1 => simp [byteVals, ub_small h2 (by omega)]
  | 2 => simp [byteVals, ub_small h4 (by omega)]
  | j + 3 => simp [byteVals]
theorem wrap_u8 (n : Int) (h0 : 0 ≤ n) (h1 : n ≤ 255) : IntKind.u8.wrap n = n := by
  show n % 256 = n
  omega
def encA (g : Nat) (m : Array Value) (x : Nat → Value) : Act := ⟨#[.agg m, .pointer (some ⟨g, 0, none⟩), x 20, x 21, .int .i64 0, .agg m, .int .i64 0, .int .i64 0, .bool false, undef,
  x 0, x 1, x 2, x 3, x 4, x 5, x 6, x 7, x 8, x 9, x 10, x 11, x 12, x 13, x 14, x 15, x 16, x 17, x 18, x 19], []⟩
def encX (j : Nat) : Value := if j = 20 then .string ⟨#[]⟩ else if j = 21 then .int .i64 0 else undef
def EncM (B g : Nat) (m : Array Value) (w0 w : World) : Prop := Below B w0 w ∧ B ≤ w.heap.size ∧ w.heap[g]? = some (.cells m 63 (0, 0))
def Row3 (g : Nat) (m : Array Value) (w : World) : Prop := w.heap[g]? = some (.cells m 5 (0, 0))
def encV (g : Nat) (kd fr tt id : Int) (b : ByteArray) (i : Nat) (v : Value) (w : World) : Prop :=
  match i with
  | 0 => v = .pointer (some ⟨g, 0, none⟩)
  | 1 => v = .int .i64 kd
  | 2 => v = .int .u8 kd
  | 3 => v = .pointer (some ⟨g, 1, none⟩)
  | 4 => v = .int .i64 fr
  | 5 => v = .int .u8 fr
  | 6 => v = .pointer (some ⟨g, 2, none⟩)
  | 7 => v = .int .i64 tt
  | 8 => v = .int .u8 tt
  | 9 => ∃ g', v = .slice (some ⟨g', 0, none⟩) 3 3 ∧ Row3 g' #[.int .u8 kd, .int .u8 fr, .int .u8 tt] w
  | 10 => v = .string ⟨#[ub kd, ub fr, ub tt]⟩
  | 11 => v = .pointer (some ⟨g, 3, none⟩)
  | 12 => v = .int .i64 id
  | 13 => v = .string ⟨(num id).toArray⟩
  | 14 => v = .string ((⟨#[ub kd, ub fr, ub tt]⟩ : ByteArray) ++ ⟨(num id).toArray⟩)
  | 15 => v = .pointer (some ⟨g, 4, none⟩)
  | 16 => v = .string b
  | 17 => v = .string ⟨(textB b.data.toList).toArray⟩
  | 18 => v = .string ⟨(frB kd fr tt id b.data.toList).toArray⟩
  | 19 => v = .string (sealS ⟨(frB kd fr tt id b.data.toList).toArray⟩)
  | 20 => v = .string (sealS ⟨(frB kd fr tt id b.data.toList).toArray⟩)
  | _ => v = .int .i64 0
theorem encV_on {g : Nat} {kd fr tt id : Int} {b : ByteArray} (i : Nat) (v : Value) (w w' : World) (hb : Below w.heap.size w w') (h : encV g kd fr tt id b i v w) : encV g kd fr tt id b i v w' := by
  unfold encV at h ⊢
  split at h <;> try exact h
  obtain ⟨g', hv, hr⟩ := h
  exact ⟨g', hv, obj_below hr hb⟩
theorem EncM.drew {B g : Nat} {m : Array Value} {w0 w : World} (h : EncM B g m w0 w) : EncM B g m w0 w.drew := ⟨h.1.drew, h.2.1, h.2.2⟩
theorem EncM.on {B g : Nat} {m : Array Value} {w0 w w' : World} (hb : Below w.heap.size w w') (h : EncM B g m w0 w) : EncM B g m w0 w' :=
  ⟨h.1.trans (hb.mono h.2.1), Nat.le_trans h.2.1 hb.size, obj_below h.2.2 hb⟩
set_option maxHeartbeats 2000000 in
set_option maxRecDepth 100000 in
theorem rEncode_ok (kd fr tt id : Int) (b : ByteArray) (w : World) (hm : msgOk kd fr tt id) (hb : b.size ≤ 4096) :
    Calls Try.prog 45 #[.agg #[.int .i64 kd, .int .i64 fr, .int .i64 tt, .int .i64 id, .string b]] w fun e w' => e = .returned (.tuple #[.string (sealS ⟨(frB kd fr tt id b.data.toList).toArray⟩), .int .i64 0]) ∧ Below w.heap.size w w' := by
  have hchk : chk kd fr tt id b.size = 0 := by unfold chk; rw [if_pos hm, if_neg (by omega)]
  have HC := hide hchk
  clear hchk
  obtain ⟨hk0, hk1, hf0, hf1, ht0, ht1, hi0, hi1⟩ := hm
  go_enter Try.func45, Try.ntmps45
  go_wp2_with fail
  refine (rCheck_any kd fr tt id b _ (by omega)).mono ?_
  rintro e w1 ⟨rfl, hb1⟩
  rw [HC.out]
  have hmg := obj_below (obj_new w (.cells #[.int .i64 kd, .int .i64 fr, .int .i64 tt, .int .i64 id, .string b] 63)) hb1
  have HM : EncM w.heap.size w.heap.size #[.int .i64 kd, .int .i64 fr, .int .i64 tt, .int .i64 id, .string b] w w1 :=
    ⟨((Below.refl w.heap.size w).alloc (Nat.le_refl _) (.cells #[.int .i64 kd, .int .i64 fr, .int .i64 tt, .int .i64 id, .string b] 63)).trans (hb1.mono (by simp)), by have := hb1.size; simp at this; omega, hmg⟩
  clear hb1 hmg
  go_wp2_with fail
  have hw1 := wrap_u8 kd (by omega) (by omega)
  have hw2 := wrap_u8 fr hf0 (by omega)
  have hw3 := wrap_u8 tt ht0 (by omega)
  have hn := num_ten id (by omega)
  have ht : (textB b.data.toList).length ≤ 4200 := by
    have h1 := num_ten (b.data.toList.length : Int) (by have := size_list b; omega)
    have h2 := size_list b
    unfold textB
    rw [List.length_append]
    omega
  have hs2 : (⟨(textB b.data.toList).toArray⟩ : ByteArray).size ≤ 4200 := by rw [str_size]; exact ht
  have hse : ({ data := #[ub kd, ub fr, ub tt] } : ByteArray) ++ { data := (num id).toArray } ++ { data := (textB b.data.toList).toArray } = ⟨(frB kd fr tt id b.data.toList).toArray⟩ := by
    rw [show ({ data := #[ub kd, ub fr, ub tt] } : ByteArray) = ⟨[ub kd, ub fr, ub tt].toArray⟩ from rfl, str_app, str_app]
    simp [frB, frPre]
  have hsf : (⟨(frB kd fr tt id b.data.toList).toArray⟩ : ByteArray).size ≤ 4611686018427387904 := by
    rw [str_size]
    simp [frB, frPre]
    omega
  have hs1 : (⟨(num id).toArray⟩ : ByteArray).size ≤ 10 := by rw [str_size]; exact hn
  refine wp_region_vals (encA w.heap.size #[.int .i64 kd, .int .i64 fr, .int .i64 tt, .int .i64 id, .string b]) encX (EncM w.heap.size w.heap.size #[.int .i64 kd, .int .i64 fr, .int .i64 tt, .int .i64 id, .string b] w) (encV w.heap.size kd fr tt id b) rfl (by kernel_rfl) rfl (fun _ _ => EncM.on) encV_on HM.drew ?_ ?_ ?_
  · exact ⟨fun x v => rfl, fun x v => rfl, fun x v => rfl, fun x v => rfl, fun x v => rfl, fun x v => rfl, fun x v => rfl, fun x v => rfl, fun x v => rfl, fun x v => rfl, fun x v => rfl,
      fun x v => rfl, fun x v => rfl, fun x v => rfl, fun x v => rfl, fun x v => rfl, fun x v => rfl, fun x v => rfl, fun x v => rfl, fun x v => rfl, fun x v => rfl, fun x v => rfl, trivial⟩
  · refine ⟨?_, ?_, ?_, ?_, ?_, ?_, ?_, ?_, ?_, ?_, ?_, ?_, ?_, ?_, ?_, ?_, ?_, ?_, ?_, ?_, ?_, ?_, trivial⟩
    · intro x w' hS hd K hK
      refine ⟨rfl, ?_⟩
      unfold encA at hK ⊢
      go_wp2
      exact hK (.pointer (some ⟨w.heap.size, 0, none⟩)) w' (Below.refl _ _) rfl
    · intro x w' hS hd K hK
      refine ⟨rfl, ?_⟩
      have d0 : x 0 = .pointer (some ⟨w.heap.size, 0, none⟩) := hd _ List.mem_cons_self
      unfold encA at hK ⊢
      simp only [d0] at hK ⊢
      have z := obj_cell hS.2.2 0
      simp only [List.getElem?_toArray, List.getElem?_cons_zero] at z
      go_wp2
      exact hK (.int .i64 kd) w' (Below.refl _ _) rfl
    · intro x w' hS hd K hK
      refine ⟨rfl, ?_⟩
      have d0 : x 1 = .int .i64 kd := hd _ List.mem_cons_self
      unfold encA at hK ⊢
      simp only [d0] at hK ⊢
      go_wp2
      exact hK (.int .u8 kd) w' (Below.refl _ _) rfl
    · intro x w' hS hd K hK
      refine ⟨rfl, ?_⟩
      unfold encA at hK ⊢
      go_wp2
      exact hK (.pointer (some ⟨w.heap.size, 1, none⟩)) w' (Below.refl _ _) rfl
    · intro x w' hS hd K hK
      refine ⟨rfl, ?_⟩
      have d0 : x 3 = .pointer (some ⟨w.heap.size, 1, none⟩) := hd _ List.mem_cons_self
      unfold encA at hK ⊢
      simp only [d0] at hK ⊢
      have z := obj_cell hS.2.2 1
      simp only [List.getElem?_toArray, List.getElem?_cons_zero, List.getElem?_cons_succ] at z
      go_wp2
      exact hK (.int .i64 fr) w' (Below.refl _ _) rfl
    · intro x w' hS hd K hK
      refine ⟨rfl, ?_⟩
      have d0 : x 4 = .int .i64 fr := hd _ List.mem_cons_self
      unfold encA at hK ⊢
      simp only [d0] at hK ⊢
      go_wp2
      exact hK (.int .u8 fr) w' (Below.refl _ _) rfl
    · intro x w' hS hd K hK
      refine ⟨rfl, ?_⟩
      unfold encA at hK ⊢
      go_wp2
      exact hK (.pointer (some ⟨w.heap.size, 2, none⟩)) w' (Below.refl _ _) rfl
    · intro x w' hS hd K hK
      refine ⟨rfl, ?_⟩
      have d0 : x 6 = .pointer (some ⟨w.heap.size, 2, none⟩) := hd _ List.mem_cons_self
      unfold encA at hK ⊢
      simp only [d0] at hK ⊢
      have z := obj_cell hS.2.2 2
      simp only [List.getElem?_toArray, List.getElem?_cons_zero, List.getElem?_cons_succ] at z
      go_wp2
      exact hK (.int .i64 tt) w' (Below.refl _ _) rfl
    · intro x w' hS hd K hK
      refine ⟨rfl, ?_⟩
      have d0 : x 7 = .int .i64 tt := hd _ List.mem_cons_self
      unfold encA at hK ⊢
      simp only [d0] at hK ⊢
      go_wp2
      exact hK (.int .u8 tt) w' (Below.refl _ _) rfl
    · intro x w' hS hd K hK
      refine ⟨rfl, ?_⟩
      have d0 : x 2 = .int .u8 kd := hd _ List.mem_cons_self
      have d1 : x 5 = .int .u8 fr := hd _ (List.mem_cons_of_mem _ List.mem_cons_self)
      have d2 : x 8 = .int .u8 tt := hd _ (List.mem_cons_of_mem _ (List.mem_cons_of_mem _ List.mem_cons_self))
      unfold encA at hK ⊢
      simp only [d0, d1, d2] at hK ⊢
      go_wp2
      exact hK (.slice (some ⟨w'.heap.size, 0, none⟩) 3 3) _ ((Below.refl _ _).alloc (Nat.le_refl _) _) ⟨_, rfl, obj_new _ _⟩
    · intro x w' hS hd K hK
      refine ⟨rfl, ?_⟩
      obtain ⟨g', d0, hr⟩ : encV w.heap.size kd fr tt id b 9 (x 9) w' := hd _ List.mem_cons_self
      have hcv := conv3 hr (by omega) (by omega) hf0 (by omega) ht0 (by omega)
      unfold encA at hK ⊢
      simp only [d0] at hK ⊢
      go_wp2
      exact hK (.string ⟨#[ub kd, ub fr, ub tt]⟩) w' (Below.refl _ _) rfl
    · intro x w' hS hd K hK
      refine ⟨rfl, ?_⟩
      unfold encA at hK ⊢
      go_wp2
      exact hK (.pointer (some ⟨w.heap.size, 3, none⟩)) w' (Below.refl _ _) rfl
    · intro x w' hS hd K hK
      refine ⟨rfl, ?_⟩
      have d0 : x 11 = .pointer (some ⟨w.heap.size, 3, none⟩) := hd _ List.mem_cons_self
      unfold encA at hK ⊢
      simp only [d0] at hK ⊢
      have z := obj_cell hS.2.2 3
      simp only [List.getElem?_toArray, List.getElem?_cons_zero, List.getElem?_cons_succ] at z
      go_wp2
      exact hK (.int .i64 id) w' (Below.refl _ _) rfl
    · intro x w' hS hd K hK
      refine ⟨rfl, ?_⟩
      have d0 : x 12 = .int .i64 id := hd _ List.mem_cons_self
      unfold encA at hK ⊢
      simp only [d0] at hK ⊢
      go_wp2_with fail
      refine (r3Int_any id _ (by omega) (by omega)).mono ?_
      rintro e w2 ⟨rfl, hb2⟩
      exact hK (.string ⟨(num id).toArray⟩) w2 hb2 rfl
    · intro x w' hS hd K hK
      refine ⟨rfl, ?_⟩
      have d0 : x 10 = .string ⟨#[ub kd, ub fr, ub tt]⟩ := hd _ List.mem_cons_self
      have d1 : x 13 = .string ⟨(num id).toArray⟩ := hd _ (List.mem_cons_of_mem _ List.mem_cons_self)
      unfold encA at hK ⊢
      simp only [d0, d1] at hK ⊢
      go_wp2
      exact hK (.string ((⟨#[ub kd, ub fr, ub tt]⟩ : ByteArray) ++ (⟨(num id).toArray⟩ : ByteArray))) w' (Below.refl _ _) rfl
    · intro x w' hS hd K hK
      refine ⟨rfl, ?_⟩
      unfold encA at hK ⊢
      go_wp2
      exact hK (.pointer (some ⟨w.heap.size, 4, none⟩)) w' (Below.refl _ _) rfl
    · intro x w' hS hd K hK
      refine ⟨rfl, ?_⟩
      have d0 : x 15 = .pointer (some ⟨w.heap.size, 4, none⟩) := hd _ List.mem_cons_self
      unfold encA at hK ⊢
      simp only [d0] at hK ⊢
      have z := obj_cell hS.2.2 4
      simp only [List.getElem?_toArray, List.getElem?_cons_zero, List.getElem?_cons_succ] at z
      go_wp2
      exact hK (.string b) w' (Below.refl _ _) rfl
    · intro x w' hS hd K hK
      refine ⟨rfl, ?_⟩
      have d0 : x 16 = .string b := hd _ List.mem_cons_self
      unfold encA at hK ⊢
      simp only [d0] at hK ⊢
      go_wp2_with fail
      refine (r3Text_any b _ (by omega)).mono ?_
      rintro e w2 ⟨rfl, hb2⟩
      exact hK (.string ⟨(textB b.data.toList).toArray⟩) w2 hb2 rfl
    · intro x w' hS hd K hK
      refine ⟨rfl, ?_⟩
      have d0 : x 14 = .string ((⟨#[ub kd, ub fr, ub tt]⟩ : ByteArray) ++ ⟨(num id).toArray⟩) := hd _ List.mem_cons_self
      have d1 : x 17 = .string ⟨(textB b.data.toList).toArray⟩ := hd _ (List.mem_cons_of_mem _ List.mem_cons_self)
      unfold encA at hK ⊢
      simp only [d0, d1] at hK ⊢
      go_wp2
      exact hK (.string ⟨(frB kd fr tt id b.data.toList).toArray⟩) w' (Below.refl _ _) rfl
    · intro x w' hS hd K hK
      refine ⟨rfl, ?_⟩
      have d0 : x 18 = .string ⟨(frB kd fr tt id b.data.toList).toArray⟩ := hd _ List.mem_cons_self
      unfold encA at hK ⊢
      simp only [d0] at hK ⊢
      go_wp2_with fail
      refine (rSeal_any _ _ hsf).mono ?_
      rintro e w2 ⟨rfl, hb2⟩
      exact hK (.string (sealS ⟨(frB kd fr tt id b.data.toList).toArray⟩)) w2 hb2 rfl
    · intro x w' hS hd K hK
      refine ⟨rfl, ?_⟩
      have d0 : x 19 = .string (sealS ⟨(frB kd fr tt id b.data.toList).toArray⟩) := hd _ List.mem_cons_self
      unfold encA at hK ⊢
      simp only [d0] at hK ⊢
      go_wp2
      exact hK (.string (sealS ⟨(frB kd fr tt id b.data.toList).toArray⟩)) w' (Below.refl _ _) rfl
    · intro x w' hS hd K hK
      refine ⟨rfl, ?_⟩
      unfold encA at hK ⊢
      go_wp2
      exact hK (.int .i64 0) w' (Below.refl _ _) rfl
  · intro x w' hS hv
    have d0 : x 20 = .string (sealS ⟨(frB kd fr tt id b.data.toList).toArray⟩) := hv 20 (by decide)
    have d1 : x 21 = .int .i64 0 := hv 21 (by decide)
    unfold encA
    simp only [d0, d1]
    go_wp2
    go_ret2
    exact ⟨rfl, hS.1⟩
end Go.Proofs.Ytljmaicobafgkaa
end
section
/- Layer 12: Encode and the reference's are the same (FramesEncodes). -/
namespace Go.Proofs.Ytljmaicobafgkaa
open Go.RowKit

def REncTo (k f t i : Int) (b o : ByteArray) (c : Int) : Prop := ∀ w : World,
  Calls Try.prog 45 #[.agg #[.int .i64 k, .int .i64 f, .int .i64 t, .int .i64 i, .string b]] w fun e w' => e = .returned (.tuple #[.string o, .int .i64 c]) ∧ Below w.heap.size w w'
theorem enc_same (k f t i : Int) (b : ByteArray) (hb : b.size ≤ 9223372036854775807) : ∃ o c, EncTo k f t i b o c ∧ REncTo k f t i b o c := by
  by_cases hc : chk k f t i b.size = 0
  · obtain ⟨hm, hn⟩ := chk_zero hc
    exact ⟨_, _, fun w => encode_ok k f t i b w hm hn, fun w => rEncode_ok k f t i b w hm hn⟩
  · exact ⟨_, _, fun w => encode_bad k f t i b w hb hc, fun w => rEncode_bad k f t i b w hb hc⟩
def sameA (g : Nat) (m : Array Value) (o c : Value) (x : Nat → Value) : Act := ⟨#[.agg m, .pointer (some ⟨g, 0, none⟩), x 18, o, c, o, c, .tuple #[o, c], .agg m, .tuple #[o, c], o, c, .tuple #[o, c], .agg m, .tuple #[o, c], o, c,
  x 0, x 1, x 2, x 3, x 4, x 5, x 6, x 7, x 8, x 9, x 10, x 11, x 12, x 13, x 14, x 15, x 16, x 17], []⟩
def sameX (j : Nat) : Value := if j = 18 then .bool false else undef
def sameV (m : Array Value) (o e c : Value) (i : Nat) (v : Value) (_w : World) : Prop :=
  match i with
  | 0 => v = .agg m
  | 1 => v = c
  | 2 => v = .agg m
  | 3 => v = c
  | 6 => v = o
  | 7 => v = o
  | 11 => v = e
  | 12 => v = e
  | _ => v = .bool true
set_option maxHeartbeats 4000000 in
set_option maxRecDepth 100000 in
theorem same_walk (ha : Awake12) (k f t i : Int) (b o : ByteArray) (c : Int) (hb : b.size ≤ 9223372036854775807) (hE : EncTo k f t i b o c) (hR : REncTo k f t i b o c) (w : World) :
    Calls Try.prog 7 #[.agg #[.int .i64 k, .int .i64 f, .int .i64 t, .int .i64 i, .string b]] w fun e w' => e = .returned (.bool true) ∧ Below w.heap.size w w' := by
  have HA := hide ha
  have HE := hide hE
  have HR := hide hR
  clear ha hE hR
  go_enter Try.func7, Try.ntmps7
  go_wp2_with fail
  refine (HE.out _).mono ?_
  rintro e w1 ⟨rfl, hb1⟩
  have hm := obj_below (obj_new w _) hb1
  have HM := hide hm
  have HB1 := hide (below_step (Below.refl _ _) (Nat.le_refl _) hb1)
  have hz1 := HB1.out.size
  have z0 := obj_cell hm 0
  have z1 := obj_cell hm 1
  have z2 := obj_cell hm 2
  have z3 := obj_cell hm 3
  have z4 := obj_cell hm 4
  simp only [List.getElem?_toArray, List.getElem?_cons_zero, List.getElem?_cons_succ] at z0 z1 z2 z3 z4
  have l1 := obj_lt hm
  clear hb1 hm
  go_wp2_with fail
  refine (HR.out _).mono ?_
  rintro e w2 ⟨rfl, hb2⟩
  have hS2 : EncM w.heap.size w.heap.size #[.int .i64 k, .int .i64 f, .int .i64 t, .int .i64 i, .string b] w w2 := ⟨below_on HB1.out hz1 hb2, by have := hb2.size; omega, obj_below HM.out hb2⟩
  clear z0 z1 z2 z3 z4 l1 hb2
  go_wp2_with fail
  refine wp_region_vals (sameA w.heap.size #[.int .i64 k, .int .i64 f, .int .i64 t, .int .i64 i, .string b] (.string o) (.int .i64 c)) sameX (EncM w.heap.size w.heap.size #[.int .i64 k, .int .i64 f, .int .i64 t, .int .i64 i, .string b] w) (sameV #[.int .i64 k, .int .i64 f, .int .i64 t, .int .i64 i, .string b] (.string o) (.int .i64 c) (.int .i64 (chk k f t i b.size))) rfl (by kernel_rfl) rfl (fun _ _ => EncM.on) (fun _ _ _ _ _ h => h) hS2.drew ?_ ?_ ?_
  · exact ⟨fun x v => rfl, fun x v => rfl, fun x v => rfl, fun x v => rfl, fun x v => rfl, fun x v => rfl, fun x v => rfl, fun x v => rfl, fun x v => rfl, fun x v => rfl, fun x v => rfl, fun x v => rfl, fun x v => rfl, fun x v => rfl, fun x v => rfl, fun x v => rfl, fun x v => rfl, fun x v => rfl, fun x v => rfl, trivial⟩
  · refine ⟨?_, ?_, ?_, ?_, ?_, ?_, ?_, ?_, ?_, ?_, ?_, ?_, ?_, ?_, ?_, ?_, ?_, ?_, ?_, trivial⟩
    · intro x w' hS hd K hK
      refine ⟨rfl, ?_⟩
      unfold sameA at hK ⊢
      have z0 := obj_cell hS.2.2 0
      have z1 := obj_cell hS.2.2 1
      have z2 := obj_cell hS.2.2 2
      have z3 := obj_cell hS.2.2 3
      have z4 := obj_cell hS.2.2 4
      have hlt := obj_lt hS.2.2
      simp only [List.getElem?_toArray, List.getElem?_cons_zero, List.getElem?_cons_succ] at z0 z1 z2 z3 z4
      go_wp2
      exact hK (.agg #[.int .i64 k, .int .i64 f, .int .i64 t, .int .i64 i, .string b]) w' (Below.refl _ _) rfl
    · intro x w' hS hd K hK
      have d0 : x 0 = .agg #[.int .i64 k, .int .i64 f, .int .i64 t, .int .i64 i, .string b] := by first | exact hd _ List.mem_cons_self | exact hd _ (List.mem_cons_of_mem _ List.mem_cons_self) | exact hd _ (List.mem_cons_of_mem _ (List.mem_cons_of_mem _ List.mem_cons_self)) | exact hd _ (List.mem_cons_of_mem _ (List.mem_cons_of_mem _ (List.mem_cons_of_mem _ List.mem_cons_self))) | exact hd _ (List.mem_cons_of_mem _ (List.mem_cons_of_mem _ (List.mem_cons_of_mem _ (List.mem_cons_of_mem _ List.mem_cons_self))))
      refine ⟨rfl, ?_⟩
      unfold sameA at hK ⊢
      simp only [d0] at hK ⊢
      go_wp2_with fail
      refine (check_any k f t i b _ hb).mono ?_
      rintro e w2 ⟨rfl, hb2⟩
      exact hK (.int .i64 (chk k f t i b.size)) w2 hb2 rfl
    · intro x w' hS hd K hK
      refine ⟨rfl, ?_⟩
      unfold sameA at hK ⊢
      have z0 := obj_cell hS.2.2 0
      have z1 := obj_cell hS.2.2 1
      have z2 := obj_cell hS.2.2 2
      have z3 := obj_cell hS.2.2 3
      have z4 := obj_cell hS.2.2 4
      have hlt := obj_lt hS.2.2
      simp only [List.getElem?_toArray, List.getElem?_cons_zero, List.getElem?_cons_succ] at z0 z1 z2 z3 z4
      go_wp2
      exact hK (.agg #[.int .i64 k, .int .i64 f, .int .i64 t, .int .i64 i, .string b]) w' (Below.refl _ _) rfl
    · intro x w' hS hd K hK
      have d0 : x 2 = .agg #[.int .i64 k, .int .i64 f, .int .i64 t, .int .i64 i, .string b] := by first | exact hd _ List.mem_cons_self | exact hd _ (List.mem_cons_of_mem _ List.mem_cons_self) | exact hd _ (List.mem_cons_of_mem _ (List.mem_cons_of_mem _ List.mem_cons_self)) | exact hd _ (List.mem_cons_of_mem _ (List.mem_cons_of_mem _ (List.mem_cons_of_mem _ List.mem_cons_self))) | exact hd _ (List.mem_cons_of_mem _ (List.mem_cons_of_mem _ (List.mem_cons_of_mem _ (List.mem_cons_of_mem _ List.mem_cons_self))))
      refine ⟨rfl, ?_⟩
      unfold sameA at hK ⊢
      simp only [d0] at hK ⊢
      go_wp2_with fail
      refine (rCheck_any k f t i b _ hb).mono ?_
      rintro e w2 ⟨rfl, hb2⟩
      exact hK (.int .i64 (chk k f t i b.size)) w2 hb2 rfl
    · intro x w' hS hd K hK
      have d0 : x 1 = .int .i64 (chk k f t i b.size) := by first | exact hd _ List.mem_cons_self | exact hd _ (List.mem_cons_of_mem _ List.mem_cons_self) | exact hd _ (List.mem_cons_of_mem _ (List.mem_cons_of_mem _ List.mem_cons_self)) | exact hd _ (List.mem_cons_of_mem _ (List.mem_cons_of_mem _ (List.mem_cons_of_mem _ List.mem_cons_self))) | exact hd _ (List.mem_cons_of_mem _ (List.mem_cons_of_mem _ (List.mem_cons_of_mem _ (List.mem_cons_of_mem _ List.mem_cons_self))))
      have d1 : x 3 = .int .i64 (chk k f t i b.size) := by first | exact hd _ List.mem_cons_self | exact hd _ (List.mem_cons_of_mem _ List.mem_cons_self) | exact hd _ (List.mem_cons_of_mem _ (List.mem_cons_of_mem _ List.mem_cons_self)) | exact hd _ (List.mem_cons_of_mem _ (List.mem_cons_of_mem _ (List.mem_cons_of_mem _ List.mem_cons_self))) | exact hd _ (List.mem_cons_of_mem _ (List.mem_cons_of_mem _ (List.mem_cons_of_mem _ (List.mem_cons_of_mem _ List.mem_cons_self))))
      refine ⟨rfl, ?_⟩
      unfold sameA at hK ⊢
      simp only [d0, d1] at hK ⊢
      go_wp2
      exact hK (.bool true) w' (Below.refl _ _) rfl
    · intro x w' hS hd K hK
      have d0 : x 4 = .bool true := by first | exact hd _ List.mem_cons_self | exact hd _ (List.mem_cons_of_mem _ List.mem_cons_self) | exact hd _ (List.mem_cons_of_mem _ (List.mem_cons_of_mem _ List.mem_cons_self)) | exact hd _ (List.mem_cons_of_mem _ (List.mem_cons_of_mem _ (List.mem_cons_of_mem _ List.mem_cons_self))) | exact hd _ (List.mem_cons_of_mem _ (List.mem_cons_of_mem _ (List.mem_cons_of_mem _ (List.mem_cons_of_mem _ List.mem_cons_self))))
      refine ⟨rfl, ?_⟩
      unfold sameA at hK ⊢
      simp only [d0] at hK ⊢
      go_wp2
      exact hK (.bool true) w' (Below.refl _ _) rfl
    · intro x w' hS hd K hK
      have d0 : x 5 = .bool true := by first | exact hd _ List.mem_cons_self | exact hd _ (List.mem_cons_of_mem _ List.mem_cons_self) | exact hd _ (List.mem_cons_of_mem _ (List.mem_cons_of_mem _ List.mem_cons_self)) | exact hd _ (List.mem_cons_of_mem _ (List.mem_cons_of_mem _ (List.mem_cons_of_mem _ List.mem_cons_self))) | exact hd _ (List.mem_cons_of_mem _ (List.mem_cons_of_mem _ (List.mem_cons_of_mem _ (List.mem_cons_of_mem _ List.mem_cons_self))))
      refine ⟨by unfold sameA; rw [d0]; rfl, ?_⟩
      unfold sameA at hK ⊢
      simp only [d0] at hK ⊢
      go_wp2
      exact hK (.string o) w' (Below.refl _ _) rfl
    · intro x w' hS hd K hK
      have d0 : x 5 = .bool true := by first | exact hd _ List.mem_cons_self | exact hd _ (List.mem_cons_of_mem _ List.mem_cons_self) | exact hd _ (List.mem_cons_of_mem _ (List.mem_cons_of_mem _ List.mem_cons_self)) | exact hd _ (List.mem_cons_of_mem _ (List.mem_cons_of_mem _ (List.mem_cons_of_mem _ List.mem_cons_self))) | exact hd _ (List.mem_cons_of_mem _ (List.mem_cons_of_mem _ (List.mem_cons_of_mem _ (List.mem_cons_of_mem _ List.mem_cons_self))))
      refine ⟨by unfold sameA; rw [d0]; rfl, ?_⟩
      unfold sameA at hK ⊢
      simp only [d0] at hK ⊢
      go_wp2
      exact hK (.string o) w' (Below.refl _ _) rfl
    · intro x w' hS hd K hK
      have d0 : x 6 = .string o := by first | exact hd _ List.mem_cons_self | exact hd _ (List.mem_cons_of_mem _ List.mem_cons_self) | exact hd _ (List.mem_cons_of_mem _ (List.mem_cons_of_mem _ List.mem_cons_self)) | exact hd _ (List.mem_cons_of_mem _ (List.mem_cons_of_mem _ (List.mem_cons_of_mem _ List.mem_cons_self))) | exact hd _ (List.mem_cons_of_mem _ (List.mem_cons_of_mem _ (List.mem_cons_of_mem _ (List.mem_cons_of_mem _ List.mem_cons_self))))
      have d1 : x 7 = .string o := by first | exact hd _ List.mem_cons_self | exact hd _ (List.mem_cons_of_mem _ List.mem_cons_self) | exact hd _ (List.mem_cons_of_mem _ (List.mem_cons_of_mem _ List.mem_cons_self)) | exact hd _ (List.mem_cons_of_mem _ (List.mem_cons_of_mem _ (List.mem_cons_of_mem _ List.mem_cons_self))) | exact hd _ (List.mem_cons_of_mem _ (List.mem_cons_of_mem _ (List.mem_cons_of_mem _ (List.mem_cons_of_mem _ List.mem_cons_self))))
      have d2 : x 5 = .bool true := by first | exact hd _ List.mem_cons_self | exact hd _ (List.mem_cons_of_mem _ List.mem_cons_self) | exact hd _ (List.mem_cons_of_mem _ (List.mem_cons_of_mem _ List.mem_cons_self)) | exact hd _ (List.mem_cons_of_mem _ (List.mem_cons_of_mem _ (List.mem_cons_of_mem _ List.mem_cons_self))) | exact hd _ (List.mem_cons_of_mem _ (List.mem_cons_of_mem _ (List.mem_cons_of_mem _ (List.mem_cons_of_mem _ List.mem_cons_self))))
      refine ⟨by unfold sameA; rw [d2]; rfl, ?_⟩
      unfold sameA at hK ⊢
      simp only [d0, d1, d2] at hK ⊢
      go_wp2
      exact hK (.bool true) w' (Below.refl _ _) rfl
    · intro x w' hS hd K hK
      have d0 : x 5 = .bool true := by first | exact hd _ List.mem_cons_self | exact hd _ (List.mem_cons_of_mem _ List.mem_cons_self) | exact hd _ (List.mem_cons_of_mem _ (List.mem_cons_of_mem _ List.mem_cons_self)) | exact hd _ (List.mem_cons_of_mem _ (List.mem_cons_of_mem _ (List.mem_cons_of_mem _ List.mem_cons_self))) | exact hd _ (List.mem_cons_of_mem _ (List.mem_cons_of_mem _ (List.mem_cons_of_mem _ (List.mem_cons_of_mem _ List.mem_cons_self))))
      have d1 : x 8 = .bool true := by first | exact hd _ List.mem_cons_self | exact hd _ (List.mem_cons_of_mem _ List.mem_cons_self) | exact hd _ (List.mem_cons_of_mem _ (List.mem_cons_of_mem _ List.mem_cons_self)) | exact hd _ (List.mem_cons_of_mem _ (List.mem_cons_of_mem _ (List.mem_cons_of_mem _ List.mem_cons_self))) | exact hd _ (List.mem_cons_of_mem _ (List.mem_cons_of_mem _ (List.mem_cons_of_mem _ (List.mem_cons_of_mem _ List.mem_cons_self))))
      refine ⟨rfl, ?_⟩
      unfold sameA at hK ⊢
      simp only [d0, d1] at hK ⊢
      go_wp2
      exact hK (.bool true) w' (Below.refl _ _) rfl
    · intro x w' hS hd K hK
      have d0 : x 9 = .bool true := by first | exact hd _ List.mem_cons_self | exact hd _ (List.mem_cons_of_mem _ List.mem_cons_self) | exact hd _ (List.mem_cons_of_mem _ (List.mem_cons_of_mem _ List.mem_cons_self)) | exact hd _ (List.mem_cons_of_mem _ (List.mem_cons_of_mem _ (List.mem_cons_of_mem _ List.mem_cons_self))) | exact hd _ (List.mem_cons_of_mem _ (List.mem_cons_of_mem _ (List.mem_cons_of_mem _ (List.mem_cons_of_mem _ List.mem_cons_self))))
      refine ⟨rfl, ?_⟩
      unfold sameA at hK ⊢
      simp only [d0] at hK ⊢
      go_wp2
      exact hK (.bool true) w' (Below.refl _ _) rfl
    · intro x w' hS hd K hK
      have d0 : x 10 = .bool true := by first | exact hd _ List.mem_cons_self | exact hd _ (List.mem_cons_of_mem _ List.mem_cons_self) | exact hd _ (List.mem_cons_of_mem _ (List.mem_cons_of_mem _ List.mem_cons_self)) | exact hd _ (List.mem_cons_of_mem _ (List.mem_cons_of_mem _ (List.mem_cons_of_mem _ List.mem_cons_self))) | exact hd _ (List.mem_cons_of_mem _ (List.mem_cons_of_mem _ (List.mem_cons_of_mem _ (List.mem_cons_of_mem _ List.mem_cons_self))))
      refine ⟨by unfold sameA; rw [d0]; rfl, ?_⟩
      unfold sameA at hK ⊢
      simp only [d0] at hK ⊢
      go_wp2
      exact hK (.int .i64 c) w' (Below.refl _ _) rfl
    · intro x w' hS hd K hK
      have d0 : x 10 = .bool true := by first | exact hd _ List.mem_cons_self | exact hd _ (List.mem_cons_of_mem _ List.mem_cons_self) | exact hd _ (List.mem_cons_of_mem _ (List.mem_cons_of_mem _ List.mem_cons_self)) | exact hd _ (List.mem_cons_of_mem _ (List.mem_cons_of_mem _ (List.mem_cons_of_mem _ List.mem_cons_self))) | exact hd _ (List.mem_cons_of_mem _ (List.mem_cons_of_mem _ (List.mem_cons_of_mem _ (List.mem_cons_of_mem _ List.mem_cons_self))))
      refine ⟨by unfold sameA; rw [d0]; rfl, ?_⟩
      unfold sameA at hK ⊢
      simp only [d0] at hK ⊢
      go_wp2
      exact hK (.int .i64 c) w' (Below.refl _ _) rfl
    · intro x w' hS hd K hK
      have d0 : x 11 = .int .i64 c := by first | exact hd _ List.mem_cons_self | exact hd _ (List.mem_cons_of_mem _ List.mem_cons_self) | exact hd _ (List.mem_cons_of_mem _ (List.mem_cons_of_mem _ List.mem_cons_self)) | exact hd _ (List.mem_cons_of_mem _ (List.mem_cons_of_mem _ (List.mem_cons_of_mem _ List.mem_cons_self))) | exact hd _ (List.mem_cons_of_mem _ (List.mem_cons_of_mem _ (List.mem_cons_of_mem _ (List.mem_cons_of_mem _ List.mem_cons_self))))
      have d1 : x 12 = .int .i64 c := by first | exact hd _ List.mem_cons_self | exact hd _ (List.mem_cons_of_mem _ List.mem_cons_self) | exact hd _ (List.mem_cons_of_mem _ (List.mem_cons_of_mem _ List.mem_cons_self)) | exact hd _ (List.mem_cons_of_mem _ (List.mem_cons_of_mem _ (List.mem_cons_of_mem _ List.mem_cons_self))) | exact hd _ (List.mem_cons_of_mem _ (List.mem_cons_of_mem _ (List.mem_cons_of_mem _ (List.mem_cons_of_mem _ List.mem_cons_self))))
      have d2 : x 10 = .bool true := by first | exact hd _ List.mem_cons_self | exact hd _ (List.mem_cons_of_mem _ List.mem_cons_self) | exact hd _ (List.mem_cons_of_mem _ (List.mem_cons_of_mem _ List.mem_cons_self)) | exact hd _ (List.mem_cons_of_mem _ (List.mem_cons_of_mem _ (List.mem_cons_of_mem _ List.mem_cons_self))) | exact hd _ (List.mem_cons_of_mem _ (List.mem_cons_of_mem _ (List.mem_cons_of_mem _ (List.mem_cons_of_mem _ List.mem_cons_self))))
      refine ⟨by unfold sameA; rw [d2]; rfl, ?_⟩
      unfold sameA at hK ⊢
      simp only [d0, d1, d2] at hK ⊢
      go_wp2
      exact hK (.bool true) w' (Below.refl _ _) rfl
    · intro x w' hS hd K hK
      have d0 : x 10 = .bool true := by first | exact hd _ List.mem_cons_self | exact hd _ (List.mem_cons_of_mem _ List.mem_cons_self) | exact hd _ (List.mem_cons_of_mem _ (List.mem_cons_of_mem _ List.mem_cons_self)) | exact hd _ (List.mem_cons_of_mem _ (List.mem_cons_of_mem _ (List.mem_cons_of_mem _ List.mem_cons_self))) | exact hd _ (List.mem_cons_of_mem _ (List.mem_cons_of_mem _ (List.mem_cons_of_mem _ (List.mem_cons_of_mem _ List.mem_cons_self))))
      have d1 : x 13 = .bool true := by first | exact hd _ List.mem_cons_self | exact hd _ (List.mem_cons_of_mem _ List.mem_cons_self) | exact hd _ (List.mem_cons_of_mem _ (List.mem_cons_of_mem _ List.mem_cons_self)) | exact hd _ (List.mem_cons_of_mem _ (List.mem_cons_of_mem _ (List.mem_cons_of_mem _ List.mem_cons_self))) | exact hd _ (List.mem_cons_of_mem _ (List.mem_cons_of_mem _ (List.mem_cons_of_mem _ (List.mem_cons_of_mem _ List.mem_cons_self))))
      refine ⟨rfl, ?_⟩
      unfold sameA at hK ⊢
      simp only [d0, d1] at hK ⊢
      go_wp2
      exact hK (.bool true) w' (Below.refl _ _) rfl
    · intro x w' hS hd K hK
      have d0 : x 14 = .bool true := by first | exact hd _ List.mem_cons_self | exact hd _ (List.mem_cons_of_mem _ List.mem_cons_self) | exact hd _ (List.mem_cons_of_mem _ (List.mem_cons_of_mem _ List.mem_cons_self)) | exact hd _ (List.mem_cons_of_mem _ (List.mem_cons_of_mem _ (List.mem_cons_of_mem _ List.mem_cons_self))) | exact hd _ (List.mem_cons_of_mem _ (List.mem_cons_of_mem _ (List.mem_cons_of_mem _ (List.mem_cons_of_mem _ List.mem_cons_self))))
      refine ⟨rfl, ?_⟩
      unfold sameA at hK ⊢
      simp only [d0] at hK ⊢
      go_wp2
      exact hK (.bool true) w' (Below.refl _ _) rfl
    · intro x w' hS hd K hK
      have d0 : x 15 = .bool true := by first | exact hd _ List.mem_cons_self | exact hd _ (List.mem_cons_of_mem _ List.mem_cons_self) | exact hd _ (List.mem_cons_of_mem _ (List.mem_cons_of_mem _ List.mem_cons_self)) | exact hd _ (List.mem_cons_of_mem _ (List.mem_cons_of_mem _ (List.mem_cons_of_mem _ List.mem_cons_self))) | exact hd _ (List.mem_cons_of_mem _ (List.mem_cons_of_mem _ (List.mem_cons_of_mem _ (List.mem_cons_of_mem _ List.mem_cons_self))))
      refine ⟨by unfold sameA; rw [d0]; rfl, ?_⟩
      unfold sameA at hK ⊢
      simp only [d0] at hK ⊢
      go_wp2_with fail
      refine (HA.out _).mono ?_
      rintro e w2 ⟨rfl, hb2⟩
      exact hK (.bool true) w2 hb2 rfl
    · intro x w' hS hd K hK
      have d0 : x 15 = .bool true := by first | exact hd _ List.mem_cons_self | exact hd _ (List.mem_cons_of_mem _ List.mem_cons_self) | exact hd _ (List.mem_cons_of_mem _ (List.mem_cons_of_mem _ List.mem_cons_self)) | exact hd _ (List.mem_cons_of_mem _ (List.mem_cons_of_mem _ (List.mem_cons_of_mem _ List.mem_cons_self))) | exact hd _ (List.mem_cons_of_mem _ (List.mem_cons_of_mem _ (List.mem_cons_of_mem _ (List.mem_cons_of_mem _ List.mem_cons_self))))
      have d1 : x 16 = .bool true := by first | exact hd _ List.mem_cons_self | exact hd _ (List.mem_cons_of_mem _ List.mem_cons_self) | exact hd _ (List.mem_cons_of_mem _ (List.mem_cons_of_mem _ List.mem_cons_self)) | exact hd _ (List.mem_cons_of_mem _ (List.mem_cons_of_mem _ (List.mem_cons_of_mem _ List.mem_cons_self))) | exact hd _ (List.mem_cons_of_mem _ (List.mem_cons_of_mem _ (List.mem_cons_of_mem _ (List.mem_cons_of_mem _ List.mem_cons_self))))
      refine ⟨rfl, ?_⟩
      unfold sameA at hK ⊢
      simp only [d0, d1] at hK ⊢
      go_wp2
      exact hK (.bool true) w' (Below.refl _ _) rfl
    · intro x w' hS hd K hK
      have d0 : x 17 = .bool true := by first | exact hd _ List.mem_cons_self | exact hd _ (List.mem_cons_of_mem _ List.mem_cons_self) | exact hd _ (List.mem_cons_of_mem _ (List.mem_cons_of_mem _ List.mem_cons_self)) | exact hd _ (List.mem_cons_of_mem _ (List.mem_cons_of_mem _ (List.mem_cons_of_mem _ List.mem_cons_self))) | exact hd _ (List.mem_cons_of_mem _ (List.mem_cons_of_mem _ (List.mem_cons_of_mem _ (List.mem_cons_of_mem _ List.mem_cons_self))))
      refine ⟨rfl, ?_⟩
      unfold sameA at hK ⊢
      simp only [d0] at hK ⊢
      go_wp2
      exact hK (.bool true) w' (Below.refl _ _) rfl
  · intro x w' hS hv
    have d0 : x 18 = .bool true := hv 18 (by decide)
    unfold sameA
    simp only [d0]
    go_wp2
    go_ret
    exact ⟨rfl, hS.1⟩
theorem walk_framesEncodes (k f t i : Int) (b : ByteArray) (w : World) (_hk : (Lit.int .i64 k).wf = true) (_hf : (Lit.int .i64 f).wf = true) (_ht : (Lit.int .i64 t).wf = true) (_hi : (Lit.int .i64 i).wf = true) (hb : b.size ≤ maxLen) :
    Calls Try.prog 7 #[.agg #[.int .i64 k, .int .i64 f, .int .i64 t, .int .i64 i, .string b]] w fun e w' => e = .returned (.bool true) ∧ Below w.heap.size w w' := by
  obtain ⟨o, c, hE, hR⟩ := enc_same k f t i b hb
  exact same_walk awake12 k f t i b o c hb hE hR w
end Go.Proofs.Ytljmaicobafgkaa
end
