/- Appending bytes: onto a slice that came in full, or onto a row of the call's own. -/
import Derived.Test.YthcnoamgkkbkcaaBytes
import Derived.Test.YthcnoamgkkbkcaaOpl
namespace Go.Proofs.Ythcnoamgkkbkcaa
open Go.RowKit

theorem info5 : (Try.prog.info? 5).map (fun i => (i.zero, i.size, i.bytes)) = some (some (.int .u8 0), 1, 1) := by kernel_rfl

/-- The slice (A, l.length, ..) reads as the bytes l, in blocks below B. -/
def RdB (w : World) (B : Nat) (A : Option Addr) (l : List UInt8) : Prop :=
  (A = none → l = []) ∧ ∀ ad, A = some ad → ad.block < B ∧ ∀ j u, (byteVals l)[j]? = some u → w.cell? (ad.add j) = some u
theorem RdB.below {w w' : World} {B : Nat} {A : Option Addr} {l : List UInt8} (h : RdB w B A l) (hb : Below B w w') : RdB w' B A l :=
  ⟨h.1, fun ad e => ⟨(h.2 ad e).1, fun j u hu => by
    rw [hb.cell (p := ad.add j) (by rw [show (ad.add j).block = ad.block from by unfold Addr.add; split <;> rfl]; exact (h.2 ad e).1)]
    exact (h.2 ad e).2 j u hu⟩⟩
theorem RdB.more {w : World} {B B' : Nat} {A : Option Addr} {l : List UInt8} (h : RdB w B A l) (hB : B ≤ B') : RdB w B' A l :=
  ⟨h.1, fun ad e => ⟨Nat.lt_of_lt_of_le (h.2 ad e).1 hB, (h.2 ad e).2⟩⟩
theorem RdB.nil (w : World) (B : Nat) : RdB w B none [] := ⟨fun _ => rfl, fun _ h => by cases h⟩

/-- A row of bytes that lies from block B on. -/
def OwB (w : World) (B : Nat) (v : Value) (l : List UInt8) : Prop := w.ownsRow B 5 1 v l.length (byteVals l)
theorem OwB.rd {w : World} {B : Nat} {v : Value} {l : List UInt8} (h : OwB w B v l) : ∃ A c, v = .slice A l.length c ∧ l.length ≤ c ∧ RdB w w.heap.size A l := by
  rcases h.2 with ⟨rfl, h0⟩ | ⟨g, cap, cur, rfl, hb, hh, hn, hm, hc, ht⟩
  · have : l = [] := List.eq_nil_of_length_eq_zero h0
    subst this
    exact ⟨none, 0, rfl, Nat.le_refl _, RdB.nil _ _⟩
  · refine ⟨_, _, rfl, hn, fun e => (by cases e), fun ad e => ?_⟩
    cases e
    refine ⟨obj_lt hh, fun j u hu => ?_⟩
    rw [add_plain', obj_cell hh, Nat.zero_add, ← Array.getElem?_toList]
    have hj : j < l.length := by
      have := (List.getElem?_eq_some_iff.1 hu).1
      simpa [byteVals] using this
    rw [← ht, List.getElem?_take] at hu
    simpa [hj] using hu

theorem one_byte (w : World) (b : UInt8) (j : Nat) (u : Value) (hu : ([.int .u8 (b.toNat : Int)] : List Value)[j]? = some u) :
    (w.alloc (.cells #[.int .u8 (b.toNat : Int)] 5)).cell? ((⟨w.heap.size, 0, none⟩ : Addr).add j) = some u := by
  rw [add_plain', Nat.zero_add, obj_cell (obj_new w _)]
  rw [← hu]
  match j with
  | 0 => rfl
  | j + 1 => rfl

/-- One byte onto a slice that came in full. -/
theorem app_full {w : World} {A : Option Addr} {l : List UInt8} (h : RdB w w.heap.size A l) (b : UInt8) (hl : l.length + 1 ≤ 140737488355328) (ty : TypeId) :
    ∃ v' w', (Builtin.append_ #[119, 119] ty #[.slice A l.length l.length, .slice (some ⟨w.heap.size, 0, none⟩) 1 1]).run Try.prog (w.alloc (.cells #[.int .u8 (b.toNat : Int)] 5)) = .ok v' w' ∧
      OwB w' w.heap.size v' (l ++ [b]) ∧ Below w.heap.size w w' := by
  obtain ⟨i0, hi0, hz0, hz1, hz2⟩ := info_parts info5
  have hb0 := (Below.refl w.heap.size w).alloc (Nat.le_refl _) (.cells #[.int .u8 (b.toNat : Int)] 5)
  rcases A with _ | ad
  · have : l = [] := h.1 rfl
    subst this
    obtain ⟨v', w', hrun, hown, hg, _, _⟩ := run_append_own_at (P := Try.prog) (w.alloc (.cells #[.int .u8 (b.toNat : Int)] 5)) w.heap.size 119 ty 5 i0 (.int .u8 0) 1 1 Try.underlying119 hi0 hz0 hz1 hz2 rfl (by decide) (.slice none 0 0) 0 [] (World.ownsRow_nil _ _ _ _) ⟨w.heap.size, 0, none⟩ 1 1 [.int .u8 (b.toNat : Int)] rfl (one_byte w b) (by simp [Value.oneCell']) (by simp [maxLen]) (by decide) (by simp)
    exact ⟨v', w', hrun, by simpa [OwB, byteVals] using hown, hb0.grown hg (by simp) (by simp [Value.ownBlock])⟩
  · have hlen : (byteVals l).length = l.length * 1 := by simp [byteVals]
    obtain ⟨v', w', hrun, hown, hg⟩ := run_append_arg_grows (P := Try.prog) (w.alloc (.cells #[.int .u8 (b.toNat : Int)] 5)) 119 ty 5 i0 (.int .u8 0) 1 1 Try.underlying119 hi0 hz0 hz1 hz2 rfl (by decide) ad l.length l.length (byteVals l) hlen
      (fun j u hu => ((h.more (Nat.le_refl _)).below hb0).2 ad rfl |>.2 j u hu) ⟨w.heap.size, 0, none⟩ 1 1 [.int .u8 (b.toNat : Int)] rfl (one_byte w b) (by omega) (by simp only [maxLen]; omega) (by omega)
    refine ⟨v', w', hrun, ?_, hb0.grown hg (by simp) (by simp)⟩
    have e : byteVals (l ++ [b]) = byteVals l ++ [.int .u8 (b.toNat : Int)] := by simp [byteVals]
    unfold OwB
    rw [e, List.length_append]
    refine ⟨hown.1, hown.2.imp id ?_⟩
    rintro ⟨g, cap, cur, h1, h2, h3⟩
    refine ⟨g, cap, cur, h1, Nat.le_trans ?_ h2, h3⟩
    simp

/-- One byte onto a row of the call's own. -/
theorem app_own {w : World} {B : Nat} {v : Value} {l : List UInt8} (h : OwB w B v l) (b : UInt8) (hl : l.length + 1 ≤ 140737488355328) (hB : B ≤ w.heap.size) (ty : TypeId) :
    ∃ v' w', (Builtin.append_ #[119, 119] ty #[v, .slice (some ⟨w.heap.size, 0, none⟩) 1 1]).run Try.prog (w.alloc (.cells #[.int .u8 (b.toNat : Int)] 5)) = .ok v' w' ∧
      OwB w' B v' (l ++ [b]) ∧ Below B w w' := by
  obtain ⟨i0, hi0, hz0, hz1, hz2⟩ := info_parts info5
  have hb0 := (Below.refl B w).alloc hB (.cells #[.int .u8 (b.toNat : Int)] 5)
  obtain ⟨v', w', hrun, hown, hg, _, _⟩ := run_append_own_at (P := Try.prog) (w.alloc (.cells #[.int .u8 (b.toNat : Int)] 5)) B 119 ty 5 i0 (.int .u8 0) 1 1 Try.underlying119 hi0 hz0 hz1 hz2 rfl (by decide) v l.length (byteVals l) (h.alloc _) ⟨w.heap.size, 0, none⟩ 1 1 [.int .u8 (b.toNat : Int)] rfl (one_byte w b) (by simp [Value.oneCell']) (by simp only [maxLen]; omega) (by omega) (by simp; omega)
  have e : byteVals (l ++ [b]) = byteVals l ++ [.int .u8 (b.toNat : Int)] := by simp [byteVals]
  refine ⟨v', w', hrun, by unfold OwB; rw [e, List.length_append]; exact hown, hb0.grown hg (by simp; omega) (fun k hk => ?_)⟩
  rcases h.2 with ⟨rfl, _⟩ | ⟨g, cap, cur, rfl, hb, _⟩
  · simp [Value.ownBlock] at hk
  · simp [Value.ownBlock] at hk
    omega
end Go.Proofs.Ythcnoamgkkbkcaa
