/- Chapter 31, segment: the reference's Seal. -/
import Derived.Test.YtljmaicobafgkaaSeg14
import Derived.Test.YtljmaicobafgkaaOrd5
namespace Go.Proofs.Ytljmaicobafgkaa
open Go.RowKit

def RsS (w0 : World) (n : Nat) (l : List Ent) (w : World) (xv iv : Value) : Prop :=
  ∃ k : Nat, iv = .int .i64 k ∧ k ≤ l.length ∧ xv = .string ⟨(num n ++ (l.take k).flatMap entB).toArray⟩ ∧ Below w0.heap.size w0 w
theorem conv1 {w : World} {g : Nat} {b : UInt8} (h : w.heap[g]? = some (.cells #[.int .u8 (b.toNat : Int)] 5 (0, 0))) :
    (convert 77 9 (.slice (some ⟨g, 0, none⟩) 1 1)).run Try.prog w = .ok (.string ⟨#[b]⟩) w := by
  refine conv_str [b] rfl (fun ad e j u hu => ?_) (fun h => by simp at h)
  cases e
  rw [add_plain', Nat.zero_add, obj_cell h j, ← hu]
  match j with
  | 0 => rfl
  | j + 1 => simp [byteVals]
def rsA6 (v0 : Value) (n0 eb g' k n : Nat) (sv : Value) (N0 : ByteArray) (e : Ent) (u15 u16 : Value) (x : Nat → Value) : Act := ⟨#[v0, .pointer (some ⟨n0, 0, none⟩), .string ⟨#[]⟩, x 19, .int .i64 (k : Int), .pointer (some ⟨eb, 0, none⟩), .pointer (some ⟨n0, 2, none⟩), sv, .int .i64 (n : Int), .string N0, .int .i64 (k : Int), .pointer (some ⟨n0, 2, none⟩), sv, .int .i64 (n : Int), .bool true, u15, u16, .pointer (some ⟨n0, 2, none⟩), sv, .int .i64 (k : Int), .pointer (some ⟨g', k * 5, none⟩), entV e, x 0, x 1, x 2, x 3, x 4, x 5, x 6, x 7, x 8, x 9, x 10, x 11, x 12, x 13, x 14, x 15, x 16, x 17, x 18, undef, undef, undef, undef, undef, undef, undef, undef, undef, undef], []⟩
def rsA7 (v0 : Value) (n0 n : Nat) (sv : Value) (N0 Y : ByteArray) (iv : Value) (u : Nat → Value) (x : Nat → Value) : Act := ⟨#[v0, .pointer (some ⟨n0, 0, none⟩), x 10, .string Y, iv, u 5, .pointer (some ⟨n0, 2, none⟩), sv, .int .i64 (n : Int), .string N0, .int .i64 (n : Int), .pointer (some ⟨n0, 2, none⟩), sv, .int .i64 (n : Int), .bool false, u 15, u 16, u 17, u 18, u 19, u 20, u 21, u 22, u 23, u 24, u 25, u 26, u 27, u 28, u 29, u 30, u 31, u 32, u 33, u 34, u 35, u 36, u 37, u 38, u 39, u 40, x 0, x 1, x 2, x 3, x 4, x 5, x 6, x 7, x 8, x 9], []⟩
def rsV6 (eb : Nat) (e : Ent) (X S1 N1 S2 N2 S3 N3 S4 X2 : ByteArray) (i : Nat) (u : Value) (w : World) : Prop :=
  match i with
  | 4 => ∃ g, u = .slice (some ⟨g, 0, none⟩) 1 1 ∧ w.heap[g]? = some (.cells #[.int .u8 ((ub e.kind).toNat : Int)] 5 (0, 0))
  | 0 => u = .string X
  | 1 => u = .pointer (some ⟨eb, 0, none⟩)
  | 2 => u = .int .i64 e.kind
  | 3 => u = .int .u8 ((ub e.kind).toNat : Int)
  | 5 => u = .string S1
  | 6 => u = .pointer (some ⟨eb, 1, none⟩)
  | 7 => u = .int .i64 e.inode
  | 8 => u = .string N1
  | 9 => u = .string S2
  | 10 => u = .pointer (some ⟨eb, 2, none⟩)
  | 11 => u = .int .i64 e.block
  | 12 => u = .string N2
  | 13 => u = .string S3
  | 14 => u = .pointer (some ⟨eb, 4, none⟩)
  | 15 => u = .int .i64 e.len
  | 16 => u = .string N3
  | 17 => u = .string S4
  | 18 => u = .string X2
  | 19 => u = .string X2
  | _ => True
theorem rsV6_on {eb : Nat} {e : Ent} {X S1 N1 S2 N2 S3 N3 S4 X2 : ByteArray} (i : Nat) (u : Value) (w w' : World) (hb : Below w.heap.size w w') (h : rsV6 eb e X S1 N1 S2 N2 S3 N3 S4 X2 i u w) : rsV6 eb e X S1 N1 S2 N2 S3 N3 S4 X2 i u w' := by
  unfold rsV6 at h ⊢
  split at h <;> try exact h
  obtain ⟨g, h1, h2⟩ := h
  exact ⟨g, h1, obj_below h2 hb⟩
def rsV7 (n0 m : Nat) (T Y TY F Z : ByteArray) (i : Nat) (u : Value) (_w : World) : Prop :=
  match i with
  | 0 => u = .pointer (some ⟨n0, 1, none⟩)
  | 1 => u = .string T
  | 2 => u = .string Y
  | 3 => u = .string TY
  | 4 => u = .string Y
  | 5 => u = .int .i64 (m : Int)
  | 6 => u = .int .u32 (m : Int)
  | 7 => u = .string F
  | 8 => u = .string Z
  | 9 => u = .string (sealS Z)
  | 10 => u = .string (sealS Z)
  | _ => True
set_option maxHeartbeats 4000000 in
set_option maxRecDepth 1000000 in
theorem rSeal_seg (size : Int) (t : List UInt8) (l : List Ent) (lv : Value) (B : Nat) (w : World) (he : OwE w B lv l) (hl : l.length ≤ 2000) (hok : ∀ e ∈ l, EntOk e) (ht : t.length ≤ 1048576) :
    Calls Try.prog 61 #[.agg (rsC size ⟨t.toArray⟩ lv)] w fun e w' => e = .returned (.string (sealS ⟨(t ++ (idxB l ++ le4 (idxB l).length)).toArray⟩)) ∧ Below w.heap.size w w' := by
  obtain ⟨A, c, rfl⟩ := row_slice he
  have BOX := hide (obj_new w (.cells (rsC size ⟨t.toArray⟩ (.slice A l.length c)) 86))
  have HE := hide (row_below he ((Below.refl w.heap.size w).alloc (Nat.le_refl _) (.cells (rsC size ⟨t.toArray⟩ (.slice A l.length c)) 86)))
  clear he
  unfold rsC at *
  go_enter Try.func61, Try.ntmps61
  go_wp2_with fail
  refine (r3Int_any l.length _ (by omega) (by omega)).mono ?_
  rintro e w1 ⟨rfl, hb1⟩
  have HB1 := hide hb1
  have hstart : RsS (w.alloc (.cells #[.int .i64 size, .string ⟨t.toArray⟩, .slice A l.length c] 86)) l.length l w1 (.string ⟨(num l.length).toArray⟩) (.int .i64 0) := ⟨0, rfl, Nat.zero_le _, by simp, hb1⟩
  have HS := hide hstart
  clear hb1 hstart
  go_wp2_with fail
  go_loopw [3, 4] (fun x i wr => RsS (w.alloc (.cells #[.int .i64 size, .string ⟨t.toArray⟩, .slice A l.length c] 86)) l.length l wr x i) (fun _ i _ => l.length - (intOf i).toNat)
  case atStart => exact HS.out
  case round =>
    obtain ⟨k, rfl, hk, rfl, hb⟩ := hrel
    have HB := hide hb
    have z1 := obj_cell (obj_below BOX.out hb) 1
    have z2 := obj_cell (obj_below BOX.out hb) 2
    simp only [List.getElem?_toArray, List.getElem?_cons_zero, List.getElem?_cons_succ] at z1 z2
    clear hb
    rcases Nat.lt_or_ge k l.length with hkl | hkl
    · obtain ⟨g', c2, hv, _, hg2, hc2, hcell⟩ := ent_cells (row_below HE.out HB.out) hkl
      cases hv
      obtain ⟨e, he⟩ : ∃ e, e = l[k] := ⟨_, rfl⟩
      rw [← he] at hcell
      have q0 := hcell 0 (by decide)
      have q1 := hcell 1 (by decide)
      have q2 := hcell 2 (by decide)
      have q3 := hcell 3 (by decide)
      have q4 := hcell 4 (by decide)
      simp only [Ent.cells, List.getElem?_cons_zero, List.getElem?_cons_succ, Nat.add_zero] at q0 q1 q2 q3 q4
      clear hcell
      go_wp2_with fail
      have EB := hide (obj_new wr (.cells #[.int .i64 e.kind, .int .i64 e.inode, .int .i64 e.block, .int .i64 e.pos, .int .i64 e.len] 89))
      have hek : EntOk e := by rw [he]; exact hok _ (List.getElem_mem hkl)
      have hem := hek.1
      unfold mayE at hem
      have hel := hek.2
      obtain ⟨X, hX⟩ : ∃ X : ByteArray, X = ⟨(num (l.length : Int) ++ (l.take k).flatMap entB).toArray⟩ := ⟨_, rfl⟩
      obtain ⟨S1, hS1⟩ : ∃ S1 : ByteArray, S1 = ⟨#[ub e.kind]⟩ := ⟨_, rfl⟩
      obtain ⟨N1, hN1⟩ : ∃ N : ByteArray, N = ⟨(num e.inode).toArray⟩ := ⟨_, rfl⟩
      obtain ⟨N2, hN2⟩ : ∃ N : ByteArray, N = ⟨(num e.block).toArray⟩ := ⟨_, rfl⟩
      obtain ⟨N3, hN3⟩ : ∃ N : ByteArray, N = ⟨(num e.len).toArray⟩ := ⟨_, rfl⟩
      obtain ⟨S2, hS2⟩ : ∃ S2, S2 = S1 ++ N1 := ⟨_, rfl⟩
      obtain ⟨S3, hS3⟩ : ∃ S3, S3 = S2 ++ N2 := ⟨_, rfl⟩
      obtain ⟨S4, hS4⟩ : ∃ S4, S4 = S3 ++ N3 := ⟨_, rfl⟩
      obtain ⟨X2, hX2⟩ : ∃ X2, X2 = X ++ S4 := ⟨_, rfl⟩
      have hS4e : S4 = ⟨(entB e).toArray⟩ := by
        rw [hS4, hS3, hS2, hS1, hN1, hN2, hN3, show (⟨#[ub e.kind]⟩ : ByteArray) = ⟨[ub e.kind].toArray⟩ from rfl, str_app, str_app, str_app]
        simp [entB]
      have hX2e : X2 = ⟨(num (l.length : Int) ++ (l.take (k + 1)).flatMap entB).toArray⟩ := by
        rw [hX2, hX, hS4e, str_app, List.take_add_one, List.getElem?_eq_getElem hkl, List.flatMap_append, List.append_assoc, ← he]
        simp
      have s1 : S1.size = 1 := by rw [hS1]; rfl
      have n1 : N1.size ≤ 10 := by rw [hN1, str_size]; exact num_ten _ (by omega)
      have n2 : N2.size ≤ 10 := by rw [hN2, str_size]; exact num_ten _ (by omega)
      have n3 : N3.size ≤ 10 := by rw [hN3, str_size]; exact num_ten _ (by omega)
      have s2 : S2.size = S1.size + N1.size := by rw [hS2, ByteArray.size_append]
      have s3 : S3.size = S2.size + N2.size := by rw [hS3, ByteArray.size_append]
      have s4 : S4.size = S3.size + N3.size := by rw [hS4, ByteArray.size_append]
      have sx : X.size ≤ 70000 := by
        have h1 := num_ten (l.length : Int) (by omega)
        have h2 := idxB_len (l.take k) (fun e he => hok e (List.mem_of_mem_take he))
        rw [List.length_take] at h2
        rw [hX, str_size, List.length_append]
        omega
      have Q2 : Hid (S1.size + N1.size ≤ 9223372036854775807) := hide (by omega)
      have Q3 : Hid (S2.size + N2.size ≤ 9223372036854775807) := hide (by omega)
      have Q4 : Hid (S3.size + N3.size ≤ 9223372036854775807) := hide (by omega)
      have QX : Hid (X.size + S4.size ≤ 9223372036854775807) := hide (by omega)
      have HU : Hid (IntKind.u8.wrap e.kind = ((ub e.kind).toNat : Int)) := hide (ub_val _).symm
      have C1 : Hid (∀ W : World, Calls Try.prog 110 #[.int .i64 e.inode] W fun e w' => e = .returned (.string N1) ∧ Below W.heap.size W w') := hide (fun W => by rw [hN1]; exact r3Int_any _ W (by omega) (by omega))
      have C2 : Hid (∀ W : World, Calls Try.prog 110 #[.int .i64 e.block] W fun e w' => e = .returned (.string N2) ∧ Below W.heap.size W w') := hide (fun W => by rw [hN2]; exact r3Int_any _ W (by omega) (by omega))
      have C3 : Hid (∀ W : World, Calls Try.prog 110 #[.int .i64 e.len] W fun e w' => e = .returned (.string N3) ∧ Below W.heap.size W w') := hide (fun W => by rw [hN3]; exact r3Int_any _ W (by omega) (by omega))
      have HS1 := hide hS1
      have HS2 := hide hS2
      have HS3 := hide hS3
      have HS4 := hide hS4
      have HX2 := hide hX2
      have HX2E := hide hX2e
      rw [← he, ← hX]
      clear hX hS1 hN1 hN2 hN3 hS2 hS3 hS4 hX2 hS4e hX2e s1 n1 n2 n3 s2 s3 s4 sx hek hem hel q0 q1 q2 q3 q4 z1 z2 he
      refine wp_region_d (rsA6 (.agg #[.int .i64 size, .string ⟨t.toArray⟩, .slice (some ⟨g', 0, none⟩) l.length c]) w.heap.size wr.heap.size g' k l.length (.slice (some ⟨g', 0, none⟩) l.length c) ⟨(num (l.length : Int)).toArray⟩ e u15 u16) (fun j => if j = 19 then .string X else [u22, u23, u24, u25, u26, u27, u28, u29, u30, u31, u32, u33, u34, u35, u36, u37, u38, u39, u40].getD j undef)
        (fun d x w' => Below (wr.alloc (.cells #[.int .i64 e.kind, .int .i64 e.inode, .int .i64 e.block, .int .i64 e.pos, .int .i64 e.len] 89)).heap.size (wr.alloc (.cells #[.int .i64 e.kind, .int .i64 e.inode, .int .i64 e.block, .int .i64 e.pos, .int .i64 e.len] 89)) w' ∧ (d 19 = false → x 19 = .string X) ∧ (d 19 = true → d 0 = true)) (rsV6 wr.heap.size e X S1 N1 S2 N2 S3 N3 S4 X2) rfl (by kernel_rfl) rfl ⟨⟨rfl, rfl, rfl, Nat.le_refl _, fun _ _ => rfl⟩, (fun _ => rfl), (fun h => by cases h)⟩ ?_ ?_ ?_
      · exact ⟨fun x v => rfl, fun x v => rfl, fun x v => rfl, fun x v => rfl, fun x v => rfl, fun x v => rfl, fun x v => rfl, fun x v => rfl, fun x v => rfl, fun x v => rfl, fun x v => rfl, fun x v => rfl, fun x v => rfl, fun x v => rfl, fun x v => rfl, fun x v => rfl, fun x v => rfl, fun x v => rfl, fun x v => rfl, fun x v => rfl, trivial⟩
      · refine ⟨?_, ?_, ?_, ?_, ?_, ?_, ?_, ?_, ?_, ?_, ?_, ?_, ?_, ?_, ?_, ?_, ?_, ?_, ?_, ?_, trivial⟩
        · intro d x w' hS hdi hd hdd K hK
          have h19 : d 19 = false := by
            rcases h : d 19 with _ | _
            · rfl
            · exact absurd (hS.2.2 h) (by rw [hdi]; decide)
          have d0 : x 19 = .string X := hS.2.1 h19
          refine ⟨rfl, ?_⟩
          unfold rsA6 at hK ⊢
          simp only [d0] at hK ⊢
          go_wp2
          exact hK (.string X) w' ⟨hS.1, (fun _ => by simp), fun _ => rfl⟩ rfl (fun _ _ _ h => h)
        · intro d x w' hS hdi hd hdd K hK
          refine ⟨rfl, ?_⟩
          unfold rsA6 at hK ⊢
          go_wp2
          exact hK (.pointer (some ⟨wr.heap.size, 0, none⟩)) w' hS rfl (fun _ _ _ h => h)
        · intro d x w' hS hdi hd hdd K hK
          have d0 : x 1 = .pointer (some ⟨wr.heap.size, 0, none⟩) := by first | exact hd _ List.mem_cons_self | exact hd _ (List.mem_cons_of_mem _ List.mem_cons_self) | exact hd _ (List.mem_cons_of_mem _ (List.mem_cons_of_mem _ List.mem_cons_self)) | exact hd _ (List.mem_cons_of_mem _ (List.mem_cons_of_mem _ (List.mem_cons_of_mem _ List.mem_cons_self))) | exact hd _ (List.mem_cons_of_mem _ (List.mem_cons_of_mem _ (List.mem_cons_of_mem _ (List.mem_cons_of_mem _ List.mem_cons_self))))
          refine ⟨rfl, ?_⟩
          unfold rsA6 at hK ⊢
          simp only [d0] at hK ⊢
          have hE := obj_below EB.out hS.1
          have z0 := obj_cell hE 0
          have z1 := obj_cell hE 1
          have z2 := obj_cell hE 2
          have z3 := obj_cell hE 3
          have z4 := obj_cell hE 4
          simp only [List.getElem?_toArray, List.getElem?_cons_zero, List.getElem?_cons_succ] at z0 z1 z2 z3 z4
          go_wp2
          exact hK (.int .i64 e.kind) w' hS rfl (fun _ _ _ h => h)
        · intro d x w' hS hdi hd hdd K hK
          have d0 : x 2 = .int .i64 e.kind := by first | exact hd _ List.mem_cons_self | exact hd _ (List.mem_cons_of_mem _ List.mem_cons_self) | exact hd _ (List.mem_cons_of_mem _ (List.mem_cons_of_mem _ List.mem_cons_self)) | exact hd _ (List.mem_cons_of_mem _ (List.mem_cons_of_mem _ (List.mem_cons_of_mem _ List.mem_cons_self))) | exact hd _ (List.mem_cons_of_mem _ (List.mem_cons_of_mem _ (List.mem_cons_of_mem _ (List.mem_cons_of_mem _ List.mem_cons_self))))
          refine ⟨rfl, ?_⟩
          unfold rsA6 at hK ⊢
          simp only [d0] at hK ⊢
          have hu := HU.out
          go_wp2
          exact hK (.int .u8 ((ub e.kind).toNat : Int)) w' hS rfl (fun _ _ _ h => h)
        · intro d x w' hS hdi hd hdd K hK
          have d0 : x 3 = .int .u8 ((ub e.kind).toNat : Int) := by first | exact hd _ List.mem_cons_self | exact hd _ (List.mem_cons_of_mem _ List.mem_cons_self) | exact hd _ (List.mem_cons_of_mem _ (List.mem_cons_of_mem _ List.mem_cons_self)) | exact hd _ (List.mem_cons_of_mem _ (List.mem_cons_of_mem _ (List.mem_cons_of_mem _ List.mem_cons_self))) | exact hd _ (List.mem_cons_of_mem _ (List.mem_cons_of_mem _ (List.mem_cons_of_mem _ (List.mem_cons_of_mem _ List.mem_cons_self))))
          refine ⟨rfl, ?_⟩
          unfold rsA6 at hK ⊢
          simp only [d0] at hK ⊢
          go_wp2
          have hb2 : Below w'.heap.size w' (w'.alloc (.cells #[.int .u8 ((ub e.kind).toNat : Int)] 5)) := (Below.refl _ _).alloc (Nat.le_refl _) _
          exact hK (.slice (some ⟨w'.heap.size, 0, none⟩) 1 1) _ ⟨hS.1.trans (hb2.mono hS.1.size), hS.2⟩ ⟨_, rfl, obj_new _ _⟩ (fun j u _ h => rsV6_on _ _ _ _ hb2 h)
        · intro d x w' hS hdi hd hdd K hK
          obtain ⟨gb, d0, hr⟩ : rsV6 wr.heap.size e X S1 N1 S2 N2 S3 N3 S4 X2 4 (x 4) w' := hd _ List.mem_cons_self
          have hcv := conv1 hr
          rw [← HS1.out] at hcv
          refine ⟨rfl, ?_⟩
          unfold rsA6 at hK ⊢
          simp only [d0] at hK ⊢
          go_wp2
          exact hK (.string S1) w' hS rfl (fun _ _ _ h => h)
        · intro d x w' hS hdi hd hdd K hK
          refine ⟨rfl, ?_⟩
          unfold rsA6 at hK ⊢
          go_wp2
          exact hK (.pointer (some ⟨wr.heap.size, 1, none⟩)) w' hS rfl (fun _ _ _ h => h)
        · intro d x w' hS hdi hd hdd K hK
          have d0 : x 6 = .pointer (some ⟨wr.heap.size, 1, none⟩) := by first | exact hd _ List.mem_cons_self | exact hd _ (List.mem_cons_of_mem _ List.mem_cons_self) | exact hd _ (List.mem_cons_of_mem _ (List.mem_cons_of_mem _ List.mem_cons_self)) | exact hd _ (List.mem_cons_of_mem _ (List.mem_cons_of_mem _ (List.mem_cons_of_mem _ List.mem_cons_self))) | exact hd _ (List.mem_cons_of_mem _ (List.mem_cons_of_mem _ (List.mem_cons_of_mem _ (List.mem_cons_of_mem _ List.mem_cons_self))))
          refine ⟨rfl, ?_⟩
          unfold rsA6 at hK ⊢
          simp only [d0] at hK ⊢
          have hE := obj_below EB.out hS.1
          have z0 := obj_cell hE 0
          have z1 := obj_cell hE 1
          have z2 := obj_cell hE 2
          have z3 := obj_cell hE 3
          have z4 := obj_cell hE 4
          simp only [List.getElem?_toArray, List.getElem?_cons_zero, List.getElem?_cons_succ] at z0 z1 z2 z3 z4
          go_wp2
          exact hK (.int .i64 e.inode) w' hS rfl (fun _ _ _ h => h)
        · intro d x w' hS hdi hd hdd K hK
          have d0 : x 7 = .int .i64 e.inode := by first | exact hd _ List.mem_cons_self | exact hd _ (List.mem_cons_of_mem _ List.mem_cons_self) | exact hd _ (List.mem_cons_of_mem _ (List.mem_cons_of_mem _ List.mem_cons_self)) | exact hd _ (List.mem_cons_of_mem _ (List.mem_cons_of_mem _ (List.mem_cons_of_mem _ List.mem_cons_self))) | exact hd _ (List.mem_cons_of_mem _ (List.mem_cons_of_mem _ (List.mem_cons_of_mem _ (List.mem_cons_of_mem _ List.mem_cons_self))))
          refine ⟨rfl, ?_⟩
          unfold rsA6 at hK ⊢
          simp only [d0] at hK ⊢
          go_wp2_with fail
          refine (C1.out _).mono ?_
          rintro e w2 ⟨rfl, hb2⟩
          exact hK (.string N1) w2 ⟨hS.1.trans (hb2.mono hS.1.size), hS.2⟩ rfl (fun j u _ h => rsV6_on _ _ _ _ hb2 h)
        · intro d x w' hS hdi hd hdd K hK
          have d0 : x 5 = .string S1 := by first | exact hd _ List.mem_cons_self | exact hd _ (List.mem_cons_of_mem _ List.mem_cons_self) | exact hd _ (List.mem_cons_of_mem _ (List.mem_cons_of_mem _ List.mem_cons_self)) | exact hd _ (List.mem_cons_of_mem _ (List.mem_cons_of_mem _ (List.mem_cons_of_mem _ List.mem_cons_self))) | exact hd _ (List.mem_cons_of_mem _ (List.mem_cons_of_mem _ (List.mem_cons_of_mem _ (List.mem_cons_of_mem _ List.mem_cons_self))))
          have d1 : x 8 = .string N1 := by first | exact hd _ List.mem_cons_self | exact hd _ (List.mem_cons_of_mem _ List.mem_cons_self) | exact hd _ (List.mem_cons_of_mem _ (List.mem_cons_of_mem _ List.mem_cons_self)) | exact hd _ (List.mem_cons_of_mem _ (List.mem_cons_of_mem _ (List.mem_cons_of_mem _ List.mem_cons_self))) | exact hd _ (List.mem_cons_of_mem _ (List.mem_cons_of_mem _ (List.mem_cons_of_mem _ (List.mem_cons_of_mem _ List.mem_cons_self))))
          refine ⟨rfl, ?_⟩
          unfold rsA6 at hK ⊢
          simp only [d0, d1] at hK ⊢
          have hq := Q2.out
          go_wp2
          rw [← HS2.out]
          exact hK (.string S2) w' hS rfl (fun _ _ _ h => h)
        · intro d x w' hS hdi hd hdd K hK
          refine ⟨rfl, ?_⟩
          unfold rsA6 at hK ⊢
          go_wp2
          exact hK (.pointer (some ⟨wr.heap.size, 2, none⟩)) w' hS rfl (fun _ _ _ h => h)
        · intro d x w' hS hdi hd hdd K hK
          have d0 : x 10 = .pointer (some ⟨wr.heap.size, 2, none⟩) := by first | exact hd _ List.mem_cons_self | exact hd _ (List.mem_cons_of_mem _ List.mem_cons_self) | exact hd _ (List.mem_cons_of_mem _ (List.mem_cons_of_mem _ List.mem_cons_self)) | exact hd _ (List.mem_cons_of_mem _ (List.mem_cons_of_mem _ (List.mem_cons_of_mem _ List.mem_cons_self))) | exact hd _ (List.mem_cons_of_mem _ (List.mem_cons_of_mem _ (List.mem_cons_of_mem _ (List.mem_cons_of_mem _ List.mem_cons_self))))
          refine ⟨rfl, ?_⟩
          unfold rsA6 at hK ⊢
          simp only [d0] at hK ⊢
          have hE := obj_below EB.out hS.1
          have z0 := obj_cell hE 0
          have z1 := obj_cell hE 1
          have z2 := obj_cell hE 2
          have z3 := obj_cell hE 3
          have z4 := obj_cell hE 4
          simp only [List.getElem?_toArray, List.getElem?_cons_zero, List.getElem?_cons_succ] at z0 z1 z2 z3 z4
          go_wp2
          exact hK (.int .i64 e.block) w' hS rfl (fun _ _ _ h => h)
        · intro d x w' hS hdi hd hdd K hK
          have d0 : x 11 = .int .i64 e.block := by first | exact hd _ List.mem_cons_self | exact hd _ (List.mem_cons_of_mem _ List.mem_cons_self) | exact hd _ (List.mem_cons_of_mem _ (List.mem_cons_of_mem _ List.mem_cons_self)) | exact hd _ (List.mem_cons_of_mem _ (List.mem_cons_of_mem _ (List.mem_cons_of_mem _ List.mem_cons_self))) | exact hd _ (List.mem_cons_of_mem _ (List.mem_cons_of_mem _ (List.mem_cons_of_mem _ (List.mem_cons_of_mem _ List.mem_cons_self))))
          refine ⟨rfl, ?_⟩
          unfold rsA6 at hK ⊢
          simp only [d0] at hK ⊢
          go_wp2_with fail
          refine (C2.out _).mono ?_
          rintro e w2 ⟨rfl, hb2⟩
          exact hK (.string N2) w2 ⟨hS.1.trans (hb2.mono hS.1.size), hS.2⟩ rfl (fun j u _ h => rsV6_on _ _ _ _ hb2 h)
        · intro d x w' hS hdi hd hdd K hK
          have d0 : x 9 = .string S2 := by first | exact hd _ List.mem_cons_self | exact hd _ (List.mem_cons_of_mem _ List.mem_cons_self) | exact hd _ (List.mem_cons_of_mem _ (List.mem_cons_of_mem _ List.mem_cons_self)) | exact hd _ (List.mem_cons_of_mem _ (List.mem_cons_of_mem _ (List.mem_cons_of_mem _ List.mem_cons_self))) | exact hd _ (List.mem_cons_of_mem _ (List.mem_cons_of_mem _ (List.mem_cons_of_mem _ (List.mem_cons_of_mem _ List.mem_cons_self))))
          have d1 : x 12 = .string N2 := by first | exact hd _ List.mem_cons_self | exact hd _ (List.mem_cons_of_mem _ List.mem_cons_self) | exact hd _ (List.mem_cons_of_mem _ (List.mem_cons_of_mem _ List.mem_cons_self)) | exact hd _ (List.mem_cons_of_mem _ (List.mem_cons_of_mem _ (List.mem_cons_of_mem _ List.mem_cons_self))) | exact hd _ (List.mem_cons_of_mem _ (List.mem_cons_of_mem _ (List.mem_cons_of_mem _ (List.mem_cons_of_mem _ List.mem_cons_self))))
          refine ⟨rfl, ?_⟩
          unfold rsA6 at hK ⊢
          simp only [d0, d1] at hK ⊢
          have hq := Q3.out
          go_wp2
          rw [← HS3.out]
          exact hK (.string S3) w' hS rfl (fun _ _ _ h => h)
        · intro d x w' hS hdi hd hdd K hK
          refine ⟨rfl, ?_⟩
          unfold rsA6 at hK ⊢
          go_wp2
          exact hK (.pointer (some ⟨wr.heap.size, 4, none⟩)) w' hS rfl (fun _ _ _ h => h)
        · intro d x w' hS hdi hd hdd K hK
          have d0 : x 14 = .pointer (some ⟨wr.heap.size, 4, none⟩) := by first | exact hd _ List.mem_cons_self | exact hd _ (List.mem_cons_of_mem _ List.mem_cons_self) | exact hd _ (List.mem_cons_of_mem _ (List.mem_cons_of_mem _ List.mem_cons_self)) | exact hd _ (List.mem_cons_of_mem _ (List.mem_cons_of_mem _ (List.mem_cons_of_mem _ List.mem_cons_self))) | exact hd _ (List.mem_cons_of_mem _ (List.mem_cons_of_mem _ (List.mem_cons_of_mem _ (List.mem_cons_of_mem _ List.mem_cons_self))))
          refine ⟨rfl, ?_⟩
          unfold rsA6 at hK ⊢
          simp only [d0] at hK ⊢
          have hE := obj_below EB.out hS.1
          have z0 := obj_cell hE 0
          have z1 := obj_cell hE 1
          have z2 := obj_cell hE 2
          have z3 := obj_cell hE 3
          have z4 := obj_cell hE 4
          simp only [List.getElem?_toArray, List.getElem?_cons_zero, List.getElem?_cons_succ] at z0 z1 z2 z3 z4
          go_wp2
          exact hK (.int .i64 e.len) w' hS rfl (fun _ _ _ h => h)
        · intro d x w' hS hdi hd hdd K hK
          have d0 : x 15 = .int .i64 e.len := by first | exact hd _ List.mem_cons_self | exact hd _ (List.mem_cons_of_mem _ List.mem_cons_self) | exact hd _ (List.mem_cons_of_mem _ (List.mem_cons_of_mem _ List.mem_cons_self)) | exact hd _ (List.mem_cons_of_mem _ (List.mem_cons_of_mem _ (List.mem_cons_of_mem _ List.mem_cons_self))) | exact hd _ (List.mem_cons_of_mem _ (List.mem_cons_of_mem _ (List.mem_cons_of_mem _ (List.mem_cons_of_mem _ List.mem_cons_self))))
          refine ⟨rfl, ?_⟩
          unfold rsA6 at hK ⊢
          simp only [d0] at hK ⊢
          go_wp2_with fail
          refine (C3.out _).mono ?_
          rintro e w2 ⟨rfl, hb2⟩
          exact hK (.string N3) w2 ⟨hS.1.trans (hb2.mono hS.1.size), hS.2⟩ rfl (fun j u _ h => rsV6_on _ _ _ _ hb2 h)
        · intro d x w' hS hdi hd hdd K hK
          have d0 : x 13 = .string S3 := by first | exact hd _ List.mem_cons_self | exact hd _ (List.mem_cons_of_mem _ List.mem_cons_self) | exact hd _ (List.mem_cons_of_mem _ (List.mem_cons_of_mem _ List.mem_cons_self)) | exact hd _ (List.mem_cons_of_mem _ (List.mem_cons_of_mem _ (List.mem_cons_of_mem _ List.mem_cons_self))) | exact hd _ (List.mem_cons_of_mem _ (List.mem_cons_of_mem _ (List.mem_cons_of_mem _ (List.mem_cons_of_mem _ List.mem_cons_self))))
          have d1 : x 16 = .string N3 := by first | exact hd _ List.mem_cons_self | exact hd _ (List.mem_cons_of_mem _ List.mem_cons_self) | exact hd _ (List.mem_cons_of_mem _ (List.mem_cons_of_mem _ List.mem_cons_self)) | exact hd _ (List.mem_cons_of_mem _ (List.mem_cons_of_mem _ (List.mem_cons_of_mem _ List.mem_cons_self))) | exact hd _ (List.mem_cons_of_mem _ (List.mem_cons_of_mem _ (List.mem_cons_of_mem _ (List.mem_cons_of_mem _ List.mem_cons_self))))
          refine ⟨rfl, ?_⟩
          unfold rsA6 at hK ⊢
          simp only [d0, d1] at hK ⊢
          have hq := Q4.out
          go_wp2
          rw [← HS4.out]
          exact hK (.string S4) w' hS rfl (fun _ _ _ h => h)
        · intro d x w' hS hdi hd hdd K hK
          have d0 : x 0 = .string X := by first | exact hd _ List.mem_cons_self | exact hd _ (List.mem_cons_of_mem _ List.mem_cons_self) | exact hd _ (List.mem_cons_of_mem _ (List.mem_cons_of_mem _ List.mem_cons_self)) | exact hd _ (List.mem_cons_of_mem _ (List.mem_cons_of_mem _ (List.mem_cons_of_mem _ List.mem_cons_self))) | exact hd _ (List.mem_cons_of_mem _ (List.mem_cons_of_mem _ (List.mem_cons_of_mem _ (List.mem_cons_of_mem _ List.mem_cons_self))))
          have d1 : x 17 = .string S4 := by first | exact hd _ List.mem_cons_self | exact hd _ (List.mem_cons_of_mem _ List.mem_cons_self) | exact hd _ (List.mem_cons_of_mem _ (List.mem_cons_of_mem _ List.mem_cons_self)) | exact hd _ (List.mem_cons_of_mem _ (List.mem_cons_of_mem _ (List.mem_cons_of_mem _ List.mem_cons_self))) | exact hd _ (List.mem_cons_of_mem _ (List.mem_cons_of_mem _ (List.mem_cons_of_mem _ (List.mem_cons_of_mem _ List.mem_cons_self))))
          refine ⟨rfl, ?_⟩
          unfold rsA6 at hK ⊢
          simp only [d0, d1] at hK ⊢
          have hq := QX.out
          go_wp2
          rw [← HX2.out]
          exact hK (.string X2) w' hS rfl (fun _ _ _ h => h)
        · intro d x w' hS hdi hd hdd K hK
          have h0 : d 0 = true := by first | exact hdd _ List.mem_cons_self | exact hdd _ (List.mem_cons_of_mem _ List.mem_cons_self) | exact hdd _ (List.mem_cons_of_mem _ (List.mem_cons_of_mem _ List.mem_cons_self)) | exact hdd _ (List.mem_cons_of_mem _ (List.mem_cons_of_mem _ (List.mem_cons_of_mem _ List.mem_cons_self))) | exact hdd _ (List.mem_cons_of_mem _ (List.mem_cons_of_mem _ (List.mem_cons_of_mem _ (List.mem_cons_of_mem _ List.mem_cons_self)))) | exact hdd _ (List.mem_cons_of_mem _ (List.mem_cons_of_mem _ (List.mem_cons_of_mem _ (List.mem_cons_of_mem _ (List.mem_cons_of_mem _ List.mem_cons_self))))) | exact hdd _ (List.mem_cons_of_mem _ (List.mem_cons_of_mem _ (List.mem_cons_of_mem _ (List.mem_cons_of_mem _ (List.mem_cons_of_mem _ (List.mem_cons_of_mem _ List.mem_cons_self)))))) | exact hdd _ (List.mem_cons_of_mem _ (List.mem_cons_of_mem _ (List.mem_cons_of_mem _ (List.mem_cons_of_mem _ (List.mem_cons_of_mem _ (List.mem_cons_of_mem _ (List.mem_cons_of_mem _ List.mem_cons_self))))))) | exact hdd _ (List.mem_cons_of_mem _ (List.mem_cons_of_mem _ (List.mem_cons_of_mem _ (List.mem_cons_of_mem _ (List.mem_cons_of_mem _ (List.mem_cons_of_mem _ (List.mem_cons_of_mem _ (List.mem_cons_of_mem _ List.mem_cons_self)))))))) | exact hdd _ (List.mem_cons_of_mem _ (List.mem_cons_of_mem _ (List.mem_cons_of_mem _ (List.mem_cons_of_mem _ (List.mem_cons_of_mem _ (List.mem_cons_of_mem _ (List.mem_cons_of_mem _ (List.mem_cons_of_mem _ (List.mem_cons_of_mem _ List.mem_cons_self))))))))) | exact hdd _ (List.mem_cons_of_mem _ (List.mem_cons_of_mem _ (List.mem_cons_of_mem _ (List.mem_cons_of_mem _ (List.mem_cons_of_mem _ (List.mem_cons_of_mem _ (List.mem_cons_of_mem _ (List.mem_cons_of_mem _ (List.mem_cons_of_mem _ (List.mem_cons_of_mem _ List.mem_cons_self)))))))))) | exact hdd _ (List.mem_cons_of_mem _ (List.mem_cons_of_mem _ (List.mem_cons_of_mem _ (List.mem_cons_of_mem _ (List.mem_cons_of_mem _ (List.mem_cons_of_mem _ (List.mem_cons_of_mem _ (List.mem_cons_of_mem _ (List.mem_cons_of_mem _ (List.mem_cons_of_mem _ (List.mem_cons_of_mem _ List.mem_cons_self))))))))))) | exact hdd _ (List.mem_cons_of_mem _ (List.mem_cons_of_mem _ (List.mem_cons_of_mem _ (List.mem_cons_of_mem _ (List.mem_cons_of_mem _ (List.mem_cons_of_mem _ (List.mem_cons_of_mem _ (List.mem_cons_of_mem _ (List.mem_cons_of_mem _ (List.mem_cons_of_mem _ (List.mem_cons_of_mem _ (List.mem_cons_of_mem _ List.mem_cons_self)))))))))))) | exact hdd _ (List.mem_cons_of_mem _ (List.mem_cons_of_mem _ (List.mem_cons_of_mem _ (List.mem_cons_of_mem _ (List.mem_cons_of_mem _ (List.mem_cons_of_mem _ (List.mem_cons_of_mem _ (List.mem_cons_of_mem _ (List.mem_cons_of_mem _ (List.mem_cons_of_mem _ (List.mem_cons_of_mem _ (List.mem_cons_of_mem _ (List.mem_cons_of_mem _ List.mem_cons_self))))))))))))) | exact hdd _ (List.mem_cons_of_mem _ (List.mem_cons_of_mem _ (List.mem_cons_of_mem _ (List.mem_cons_of_mem _ (List.mem_cons_of_mem _ (List.mem_cons_of_mem _ (List.mem_cons_of_mem _ (List.mem_cons_of_mem _ (List.mem_cons_of_mem _ (List.mem_cons_of_mem _ (List.mem_cons_of_mem _ (List.mem_cons_of_mem _ (List.mem_cons_of_mem _ (List.mem_cons_of_mem _ List.mem_cons_self)))))))))))))) | exact hdd _ (List.mem_cons_of_mem _ (List.mem_cons_of_mem _ (List.mem_cons_of_mem _ (List.mem_cons_of_mem _ (List.mem_cons_of_mem _ (List.mem_cons_of_mem _ (List.mem_cons_of_mem _ (List.mem_cons_of_mem _ (List.mem_cons_of_mem _ (List.mem_cons_of_mem _ (List.mem_cons_of_mem _ (List.mem_cons_of_mem _ (List.mem_cons_of_mem _ (List.mem_cons_of_mem _ (List.mem_cons_of_mem _ List.mem_cons_self))))))))))))))) | exact hdd _ (List.mem_cons_of_mem _ (List.mem_cons_of_mem _ (List.mem_cons_of_mem _ (List.mem_cons_of_mem _ (List.mem_cons_of_mem _ (List.mem_cons_of_mem _ (List.mem_cons_of_mem _ (List.mem_cons_of_mem _ (List.mem_cons_of_mem _ (List.mem_cons_of_mem _ (List.mem_cons_of_mem _ (List.mem_cons_of_mem _ (List.mem_cons_of_mem _ (List.mem_cons_of_mem _ (List.mem_cons_of_mem _ (List.mem_cons_of_mem _ List.mem_cons_self)))))))))))))))) | exact hdd _ (List.mem_cons_of_mem _ (List.mem_cons_of_mem _ (List.mem_cons_of_mem _ (List.mem_cons_of_mem _ (List.mem_cons_of_mem _ (List.mem_cons_of_mem _ (List.mem_cons_of_mem _ (List.mem_cons_of_mem _ (List.mem_cons_of_mem _ (List.mem_cons_of_mem _ (List.mem_cons_of_mem _ (List.mem_cons_of_mem _ (List.mem_cons_of_mem _ (List.mem_cons_of_mem _ (List.mem_cons_of_mem _ (List.mem_cons_of_mem _ (List.mem_cons_of_mem _ List.mem_cons_self))))))))))))))))) | exact hdd _ (List.mem_cons_of_mem _ (List.mem_cons_of_mem _ (List.mem_cons_of_mem _ (List.mem_cons_of_mem _ (List.mem_cons_of_mem _ (List.mem_cons_of_mem _ (List.mem_cons_of_mem _ (List.mem_cons_of_mem _ (List.mem_cons_of_mem _ (List.mem_cons_of_mem _ (List.mem_cons_of_mem _ (List.mem_cons_of_mem _ (List.mem_cons_of_mem _ (List.mem_cons_of_mem _ (List.mem_cons_of_mem _ (List.mem_cons_of_mem _ (List.mem_cons_of_mem _ (List.mem_cons_of_mem _ List.mem_cons_self)))))))))))))))))) | exact hdd _ (List.mem_cons_of_mem _ (List.mem_cons_of_mem _ (List.mem_cons_of_mem _ (List.mem_cons_of_mem _ (List.mem_cons_of_mem _ (List.mem_cons_of_mem _ (List.mem_cons_of_mem _ (List.mem_cons_of_mem _ (List.mem_cons_of_mem _ (List.mem_cons_of_mem _ (List.mem_cons_of_mem _ (List.mem_cons_of_mem _ (List.mem_cons_of_mem _ (List.mem_cons_of_mem _ (List.mem_cons_of_mem _ (List.mem_cons_of_mem _ (List.mem_cons_of_mem _ (List.mem_cons_of_mem _ (List.mem_cons_of_mem _ List.mem_cons_self))))))))))))))))))) | exact hdd _ (List.mem_cons_of_mem _ (List.mem_cons_of_mem _ (List.mem_cons_of_mem _ (List.mem_cons_of_mem _ (List.mem_cons_of_mem _ (List.mem_cons_of_mem _ (List.mem_cons_of_mem _ (List.mem_cons_of_mem _ (List.mem_cons_of_mem _ (List.mem_cons_of_mem _ (List.mem_cons_of_mem _ (List.mem_cons_of_mem _ (List.mem_cons_of_mem _ (List.mem_cons_of_mem _ (List.mem_cons_of_mem _ (List.mem_cons_of_mem _ (List.mem_cons_of_mem _ (List.mem_cons_of_mem _ (List.mem_cons_of_mem _ (List.mem_cons_of_mem _ List.mem_cons_self)))))))))))))))))))) | exact hdd _ (List.mem_cons_of_mem _ (List.mem_cons_of_mem _ (List.mem_cons_of_mem _ (List.mem_cons_of_mem _ (List.mem_cons_of_mem _ (List.mem_cons_of_mem _ (List.mem_cons_of_mem _ (List.mem_cons_of_mem _ (List.mem_cons_of_mem _ (List.mem_cons_of_mem _ (List.mem_cons_of_mem _ (List.mem_cons_of_mem _ (List.mem_cons_of_mem _ (List.mem_cons_of_mem _ (List.mem_cons_of_mem _ (List.mem_cons_of_mem _ (List.mem_cons_of_mem _ (List.mem_cons_of_mem _ (List.mem_cons_of_mem _ (List.mem_cons_of_mem _ (List.mem_cons_of_mem _ List.mem_cons_self))))))))))))))))))))) | exact hdd _ (List.mem_cons_of_mem _ (List.mem_cons_of_mem _ (List.mem_cons_of_mem _ (List.mem_cons_of_mem _ (List.mem_cons_of_mem _ (List.mem_cons_of_mem _ (List.mem_cons_of_mem _ (List.mem_cons_of_mem _ (List.mem_cons_of_mem _ (List.mem_cons_of_mem _ (List.mem_cons_of_mem _ (List.mem_cons_of_mem _ (List.mem_cons_of_mem _ (List.mem_cons_of_mem _ (List.mem_cons_of_mem _ (List.mem_cons_of_mem _ (List.mem_cons_of_mem _ (List.mem_cons_of_mem _ (List.mem_cons_of_mem _ (List.mem_cons_of_mem _ (List.mem_cons_of_mem _ (List.mem_cons_of_mem _ List.mem_cons_self)))))))))))))))))))))) | exact hdd _ (List.mem_cons_of_mem _ (List.mem_cons_of_mem _ (List.mem_cons_of_mem _ (List.mem_cons_of_mem _ (List.mem_cons_of_mem _ (List.mem_cons_of_mem _ (List.mem_cons_of_mem _ (List.mem_cons_of_mem _ (List.mem_cons_of_mem _ (List.mem_cons_of_mem _ (List.mem_cons_of_mem _ (List.mem_cons_of_mem _ (List.mem_cons_of_mem _ (List.mem_cons_of_mem _ (List.mem_cons_of_mem _ (List.mem_cons_of_mem _ (List.mem_cons_of_mem _ (List.mem_cons_of_mem _ (List.mem_cons_of_mem _ (List.mem_cons_of_mem _ (List.mem_cons_of_mem _ (List.mem_cons_of_mem _ (List.mem_cons_of_mem _ List.mem_cons_self)))))))))))))))))))))))
          have d0 : x 18 = .string X2 := by first | exact hd _ List.mem_cons_self | exact hd _ (List.mem_cons_of_mem _ List.mem_cons_self) | exact hd _ (List.mem_cons_of_mem _ (List.mem_cons_of_mem _ List.mem_cons_self)) | exact hd _ (List.mem_cons_of_mem _ (List.mem_cons_of_mem _ (List.mem_cons_of_mem _ List.mem_cons_self))) | exact hd _ (List.mem_cons_of_mem _ (List.mem_cons_of_mem _ (List.mem_cons_of_mem _ (List.mem_cons_of_mem _ List.mem_cons_self))))
          refine ⟨rfl, ?_⟩
          unfold rsA6 at hK ⊢
          simp only [d0] at hK ⊢
          go_wp2
          exact hK (.string X2) w' ⟨hS.1, fun h => absurd h (by simp), fun _ => h0⟩ rfl (fun _ _ _ h => h)
      · intro d x w' hS hall hv
        have d19 : x 19 = .string X2 := hv 19 (by decide)
        have hst : RsS (w.alloc (.cells #[.int .i64 size, .string ⟨t.toArray⟩, .slice (some ⟨g', 0, none⟩) l.length c] 86)) l.length l w' (.string X2) (.int .i64 ((k + 1 : Nat) : Int)) := ⟨k + 1, rfl, hkl, by rw [HX2E.out], below_step HB.out HB.out.size hS.1⟩
        have HST := hide hst
        unfold rsA6
        simp only [d19]
        clear hS hv hst hall
        go_wp2
        go_roundw
        case rel => exact HST.out
        case measure => simp [intOf]; omega
    · obtain rfl : k = l.length := by omega
      have hX : (⟨(num (l.length : Int) ++ (l.take l.length).flatMap entB).toArray⟩ : ByteArray) = ⟨(idxB l).toArray⟩ := by rw [List.take_length]; rfl
      rw [hX]
      have hil : (idxB l).length ≤ 70000 := by
        have h1 := num_ten (l.length : Int) (by omega)
        have h2 := idxB_len l hok
        unfold idxB
        rw [List.length_append]
        omega
      obtain ⟨m, hm⟩ : ∃ m, m = (idxB l).length := ⟨_, rfl⟩
      obtain ⟨Y, hY⟩ : ∃ Y : ByteArray, Y = ⟨(idxB l).toArray⟩ := ⟨_, rfl⟩
      obtain ⟨T, hT⟩ : ∃ T : ByteArray, T = ⟨t.toArray⟩ := ⟨_, rfl⟩
      obtain ⟨F, hF⟩ : ∃ F : ByteArray, F = ⟨(le4 (m : Int)).toArray⟩ := ⟨_, rfl⟩
      obtain ⟨TY, hTY⟩ : ∃ TY, TY = T ++ Y := ⟨_, rfl⟩
      obtain ⟨Z, hZ⟩ : ∃ Z, Z = TY ++ F := ⟨_, rfl⟩
      have hZe : Z = ⟨(t ++ (idxB l ++ le4 ((idxB l).length : Int))).toArray⟩ := by
        rw [hZ, hTY, hT, hY, hF, hm, str_app, str_app]
        simp
      have ys : Y.size = m := by rw [hY, str_size, hm]
      have ts : T.size = t.length := by rw [hT, str_size]
      have fs : F.size = 4 := by rw [hF]; rfl
      have tys : TY.size = T.size + Y.size := by rw [hTY, ByteArray.size_append]
      have zs : Z.size = TY.size + F.size := by rw [hZ, ByteArray.size_append]
      have QTY : Hid (T.size + Y.size ≤ 9223372036854775807) := hide (by omega)
      have QZ : Hid (TY.size + F.size ≤ 9223372036854775807) := hide (by omega)
      have HM : Hid ((Y.size : Int) = (m : Int)) := hide (by omega)
      have HU : Hid (IntKind.u32.wrap (m : Int) = (m : Int)) := hide (by
        show (m : Int) % 4294967296 = _
        omega)
      have CF : Hid (∀ W : World, Calls Try.prog 130 #[.int .u32 (m : Int)] W fun e w' => e = .returned (.string F) ∧ Below W.heap.size W w') := hide (fun W => by rw [hF]; exact rFour_any _ W (by omega) (by omega))
      have CS : Hid (∀ W : World, Calls Try.prog 118 #[.string Z] W fun e w' => e = .returned (.string (sealS Z)) ∧ Below W.heap.size W w') := hide (fun W => rSeal_any Z W (by omega))
      have HT := hide hT
      have HTY := hide hTY
      have HZ := hide hZ
      have HZE := hide hZe
      go_wp2_with fail
      rw [← hY]
      clear hX hil hm hY hT hF hTY hZ hZe ys ts fs tys zs z1 z2
      refine wp_region_vals (rsA7 (.agg #[.int .i64 size, .string ⟨t.toArray⟩, .slice A l.length c]) w.heap.size l.length (.slice A l.length c) ⟨(num (l.length : Int)).toArray⟩ Y (.int .i64 (l.length : Int)) (fun j => if j = 5 then u5 else [u15, u16, u17, u18, u19, u20, u21, u22, u23, u24, u25, u26, u27, u28, u29, u30, u31, u32, u33, u34, u35, u36, u37, u38, u39, u40].getD (j - 15) undef)) (fun j => if j = 10 then .string ⟨#[]⟩ else undef)
        (fun w' => Below (w.alloc (.cells #[.int .i64 size, .string ⟨t.toArray⟩, .slice A l.length c] 86)).heap.size (w.alloc (.cells #[.int .i64 size, .string ⟨t.toArray⟩, .slice A l.length c] 86)) w' ∧ True) (rsV7 w.heap.size m T Y TY F Z) rfl (by kernel_rfl) rfl (fun _ _ hb h => ⟨h.1.trans (hb.mono h.1.size), trivial⟩) (fun _ _ _ _ _ h => h) ⟨⟨HB.out.os, HB.out.tape, HB.out.output, HB.out.size, HB.out.block⟩, trivial⟩ ?_ ?_ ?_
      · exact ⟨fun x v => rfl, fun x v => rfl, fun x v => rfl, fun x v => rfl, fun x v => rfl, fun x v => rfl, fun x v => rfl, fun x v => rfl, fun x v => rfl, fun x v => rfl, fun x v => rfl, trivial⟩
      · refine ⟨?_, ?_, ?_, ?_, ?_, ?_, ?_, ?_, ?_, ?_, ?_, trivial⟩
        · intro x w' hS hd K hK
          refine ⟨rfl, ?_⟩
          unfold rsA7 at hK ⊢
          go_wp2
          exact hK (.pointer (some ⟨w.heap.size, 1, none⟩)) w' (Below.refl _ _) rfl
        · intro x w' hS hd K hK
          have d0 : x 0 = .pointer (some ⟨w.heap.size, 1, none⟩) := by first | exact hd _ List.mem_cons_self | exact hd _ (List.mem_cons_of_mem _ List.mem_cons_self) | exact hd _ (List.mem_cons_of_mem _ (List.mem_cons_of_mem _ List.mem_cons_self)) | exact hd _ (List.mem_cons_of_mem _ (List.mem_cons_of_mem _ (List.mem_cons_of_mem _ List.mem_cons_self))) | exact hd _ (List.mem_cons_of_mem _ (List.mem_cons_of_mem _ (List.mem_cons_of_mem _ (List.mem_cons_of_mem _ List.mem_cons_self))))
          refine ⟨rfl, ?_⟩
          unfold rsA7 at hK ⊢
          simp only [d0] at hK ⊢
          have hE := obj_below BOX.out hS.1
          have z0 := obj_cell hE 0
          have z1 := obj_cell hE 1
          have z2 := obj_cell hE 2
          simp only [List.getElem?_toArray, List.getElem?_cons_zero, List.getElem?_cons_succ] at z0 z1 z2
          rw [← HT.out] at z1
          go_wp2
          exact hK (.string T) w' (Below.refl _ _) rfl
        · intro x w' hS hd K hK
          refine ⟨rfl, ?_⟩
          unfold rsA7 at hK ⊢
          go_wp2
          exact hK (.string Y) w' (Below.refl _ _) rfl
        · intro x w' hS hd K hK
          have d0 : x 1 = .string T := by first | exact hd _ List.mem_cons_self | exact hd _ (List.mem_cons_of_mem _ List.mem_cons_self) | exact hd _ (List.mem_cons_of_mem _ (List.mem_cons_of_mem _ List.mem_cons_self)) | exact hd _ (List.mem_cons_of_mem _ (List.mem_cons_of_mem _ (List.mem_cons_of_mem _ List.mem_cons_self))) | exact hd _ (List.mem_cons_of_mem _ (List.mem_cons_of_mem _ (List.mem_cons_of_mem _ (List.mem_cons_of_mem _ List.mem_cons_self))))
          have d1 : x 2 = .string Y := by first | exact hd _ List.mem_cons_self | exact hd _ (List.mem_cons_of_mem _ List.mem_cons_self) | exact hd _ (List.mem_cons_of_mem _ (List.mem_cons_of_mem _ List.mem_cons_self)) | exact hd _ (List.mem_cons_of_mem _ (List.mem_cons_of_mem _ (List.mem_cons_of_mem _ List.mem_cons_self))) | exact hd _ (List.mem_cons_of_mem _ (List.mem_cons_of_mem _ (List.mem_cons_of_mem _ (List.mem_cons_of_mem _ List.mem_cons_self))))
          refine ⟨rfl, ?_⟩
          unfold rsA7 at hK ⊢
          simp only [d0, d1] at hK ⊢
          have hq := QTY.out
          go_wp2
          rw [← HTY.out]
          exact hK (.string TY) w' (Below.refl _ _) rfl
        · intro x w' hS hd K hK
          refine ⟨rfl, ?_⟩
          unfold rsA7 at hK ⊢
          go_wp2
          exact hK (.string Y) w' (Below.refl _ _) rfl
        · intro x w' hS hd K hK
          have d0 : x 4 = .string Y := by first | exact hd _ List.mem_cons_self | exact hd _ (List.mem_cons_of_mem _ List.mem_cons_self) | exact hd _ (List.mem_cons_of_mem _ (List.mem_cons_of_mem _ List.mem_cons_self)) | exact hd _ (List.mem_cons_of_mem _ (List.mem_cons_of_mem _ (List.mem_cons_of_mem _ List.mem_cons_self))) | exact hd _ (List.mem_cons_of_mem _ (List.mem_cons_of_mem _ (List.mem_cons_of_mem _ (List.mem_cons_of_mem _ List.mem_cons_self))))
          refine ⟨rfl, ?_⟩
          unfold rsA7 at hK ⊢
          simp only [d0] at hK ⊢
          have hm := HM.out
          go_wp2
          exact hK (.int .i64 (m : Int)) w' (Below.refl _ _) rfl
        · intro x w' hS hd K hK
          have d0 : x 5 = .int .i64 (m : Int) := by first | exact hd _ List.mem_cons_self | exact hd _ (List.mem_cons_of_mem _ List.mem_cons_self) | exact hd _ (List.mem_cons_of_mem _ (List.mem_cons_of_mem _ List.mem_cons_self)) | exact hd _ (List.mem_cons_of_mem _ (List.mem_cons_of_mem _ (List.mem_cons_of_mem _ List.mem_cons_self))) | exact hd _ (List.mem_cons_of_mem _ (List.mem_cons_of_mem _ (List.mem_cons_of_mem _ (List.mem_cons_of_mem _ List.mem_cons_self))))
          refine ⟨rfl, ?_⟩
          unfold rsA7 at hK ⊢
          simp only [d0] at hK ⊢
          have hu := HU.out
          go_wp2
          exact hK (.int .u32 (m : Int)) w' (Below.refl _ _) rfl
        · intro x w' hS hd K hK
          have d0 : x 6 = .int .u32 (m : Int) := by first | exact hd _ List.mem_cons_self | exact hd _ (List.mem_cons_of_mem _ List.mem_cons_self) | exact hd _ (List.mem_cons_of_mem _ (List.mem_cons_of_mem _ List.mem_cons_self)) | exact hd _ (List.mem_cons_of_mem _ (List.mem_cons_of_mem _ (List.mem_cons_of_mem _ List.mem_cons_self))) | exact hd _ (List.mem_cons_of_mem _ (List.mem_cons_of_mem _ (List.mem_cons_of_mem _ (List.mem_cons_of_mem _ List.mem_cons_self))))
          refine ⟨rfl, ?_⟩
          unfold rsA7 at hK ⊢
          simp only [d0] at hK ⊢
          go_wp2_with fail
          refine (CF.out _).mono ?_
          rintro e w2 ⟨rfl, hb2⟩
          exact hK (.string F) w2 hb2 rfl
        · intro x w' hS hd K hK
          have d0 : x 3 = .string TY := by first | exact hd _ List.mem_cons_self | exact hd _ (List.mem_cons_of_mem _ List.mem_cons_self) | exact hd _ (List.mem_cons_of_mem _ (List.mem_cons_of_mem _ List.mem_cons_self)) | exact hd _ (List.mem_cons_of_mem _ (List.mem_cons_of_mem _ (List.mem_cons_of_mem _ List.mem_cons_self))) | exact hd _ (List.mem_cons_of_mem _ (List.mem_cons_of_mem _ (List.mem_cons_of_mem _ (List.mem_cons_of_mem _ List.mem_cons_self))))
          have d1 : x 7 = .string F := by first | exact hd _ List.mem_cons_self | exact hd _ (List.mem_cons_of_mem _ List.mem_cons_self) | exact hd _ (List.mem_cons_of_mem _ (List.mem_cons_of_mem _ List.mem_cons_self)) | exact hd _ (List.mem_cons_of_mem _ (List.mem_cons_of_mem _ (List.mem_cons_of_mem _ List.mem_cons_self))) | exact hd _ (List.mem_cons_of_mem _ (List.mem_cons_of_mem _ (List.mem_cons_of_mem _ (List.mem_cons_of_mem _ List.mem_cons_self))))
          refine ⟨rfl, ?_⟩
          unfold rsA7 at hK ⊢
          simp only [d0, d1] at hK ⊢
          have hq := QZ.out
          go_wp2
          rw [← HZ.out]
          exact hK (.string Z) w' (Below.refl _ _) rfl
        · intro x w' hS hd K hK
          have d0 : x 8 = .string Z := by first | exact hd _ List.mem_cons_self | exact hd _ (List.mem_cons_of_mem _ List.mem_cons_self) | exact hd _ (List.mem_cons_of_mem _ (List.mem_cons_of_mem _ List.mem_cons_self)) | exact hd _ (List.mem_cons_of_mem _ (List.mem_cons_of_mem _ (List.mem_cons_of_mem _ List.mem_cons_self))) | exact hd _ (List.mem_cons_of_mem _ (List.mem_cons_of_mem _ (List.mem_cons_of_mem _ (List.mem_cons_of_mem _ List.mem_cons_self))))
          refine ⟨rfl, ?_⟩
          unfold rsA7 at hK ⊢
          simp only [d0] at hK ⊢
          go_wp2_with fail
          refine (CS.out _).mono ?_
          rintro e w2 ⟨rfl, hb2⟩
          exact hK (.string (sealS Z)) w2 hb2 rfl
        · intro x w' hS hd K hK
          have d0 : x 9 = .string (sealS Z) := by first | exact hd _ List.mem_cons_self | exact hd _ (List.mem_cons_of_mem _ List.mem_cons_self) | exact hd _ (List.mem_cons_of_mem _ (List.mem_cons_of_mem _ List.mem_cons_self)) | exact hd _ (List.mem_cons_of_mem _ (List.mem_cons_of_mem _ (List.mem_cons_of_mem _ List.mem_cons_self))) | exact hd _ (List.mem_cons_of_mem _ (List.mem_cons_of_mem _ (List.mem_cons_of_mem _ (List.mem_cons_of_mem _ List.mem_cons_self))))
          refine ⟨rfl, ?_⟩
          unfold rsA7 at hK ⊢
          simp only [d0] at hK ⊢
          go_wp2
          exact hK (.string (sealS Z)) w' (Below.refl _ _) rfl
      · intro x w' hS hv
        have d10 : x 10 = .string (sealS Z) := hv 10 (by decide)
        unfold rsA7
        simp only [d10]
        go_wp2
        go_ret
        exact ⟨(by show Ending.returned (.string (sealS Z)) = _; rw [HZE.out]), below_step (Below.refl _ _) (Nat.le_refl _) hS.1⟩
end Go.Proofs.Ytljmaicobafgkaa
