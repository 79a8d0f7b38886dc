/- Chapter 15, replies: reading, plainly; one call read. -/
import Derived.Test.YthcnoamgkkbkcaaRp8
import Derived.Test.YthcnoamgkkbkcaaOrd8
namespace Go.Proofs.Ythcnoamgkkbkcaa
open Go.RowKit

/-- One call: what it is, whether it may be, what is left. -/
def oneR (σ : Option (List UInt8)) : En × Bool × Option (List UInt8) :=
  if (rByte (rInt σ).2).1 = 1 then (⟨(rInt σ).1, true, ByteArray.empty⟩, decide (mayR 0 (rInt σ).1), (rByte (rInt σ).2).2)
  else if (rByte (rInt σ).2).1 = 0 then (⟨(rInt σ).1, false, ⟨(rText (rByte (rInt σ).2).2).1.toArray⟩⟩, decide (mayR 0 (rInt σ).1 ∧ (rText (rByte (rInt σ).2).2).1.length ≤ 4096), (rText (rByte (rInt σ).2).2).2)
  else (⟨(rInt σ).1, false, ByteArray.empty⟩, false, (rByte (rInt σ).2).2)
def rdEs : Nat → Int → Option (List UInt8) → List En → Option (List En × Option (List UInt8))
  | 0, _, σ, acc => some (acc, σ)
  | k + 1, last, σ, acc => if (oneR σ).2.1 = true ∧ last < (oneR σ).1.id then rdEs k (oneR σ).1.id (oneR σ).2.2 (acc ++ [(oneR σ).1]) else none
def rdC (room : Int) (σ : Option (List UInt8)) : Option (List En × Option (List UInt8)) :=
  if (rInt σ).1 < 1 ∨ room < (rInt σ).1 then none else rdEs (rInt σ).1.toNat (-1) (rInt σ).2 []
def rdAll : Nat → Int → Option (List UInt8) → RS → Option (RS × Option (List UInt8))
  | 0, _, σ, S => some (S, σ)
  | k + 1, last, σ, S => if (rByte σ).1 ≤ last ∨ 64 ≤ (rByte σ).1 then none else match rdC S.room (rByte σ).2 with
    | none => none
    | some (l, σ') => rdAll k (rByte σ).1 σ' ⟨S.room, setL S.L (rByte σ).1 l⟩
def rRead (s : List UInt8) : Option RS :=
  if (rByte (some s)).1 < 1 ∨ 16 < (rByte (some s)).1 ∨ (rInt (rByte (some s)).2).1 < 0 ∨ 64 < (rInt (rByte (some s)).2).1 then none
  else match rdAll (rInt (rByte (some s)).2).1.toNat (-1) (rInt (rByte (some s)).2).2 ⟨(rByte (some s)).1, fun _ => []⟩ with
    | none => none
    | some (S, σ) => if rDone σ = 0 then some S else none
/-- No longer than so. -/
def Shr (σ : Option (List UInt8)) : Prop := ∀ l, σ = some l → l.length ≤ 16777216
theorem shr_int {σ : Option (List UInt8)} (h : Shr σ) : Shr (rInt σ).2 := by
  intro l hl
  rcases σ with _ | s
  · cases hl
  · unfold rInt at hl
    dsimp only at hl
    rcases hg : grpR s 0 0 with _ | ⟨u, n⟩
    · rw [hg] at hl
      cases hl
    · rw [hg] at hl
      simp only [Option.some.injEq] at hl
      subst hl
      have := h s rfl
      rw [List.length_drop]
      omega
theorem shr_byte {σ : Option (List UInt8)} (h : Shr σ) : Shr (rByte σ).2 := by
  intro l hl
  rcases σ with _ | s
  · cases hl
  · rcases s with _ | ⟨b, s⟩
    · cases hl
    · simp only [rByte, Option.some.injEq] at hl
      subst hl
      have := h _ rfl
      rw [List.length_cons] at this
      omega
theorem shr_text {σ : Option (List UInt8)} (h : Shr σ) : Shr (rText σ).2 := by
  intro l hl
  unfold rText at hl
  rcases e : (rInt σ).2 with _ | s
  · rw [e] at hl
    cases hl
  · rw [e] at hl
    simp only at hl
    split at hl
    · simp only [Option.some.injEq] at hl
      subst hl
      have := shr_int h s e
      rw [List.length_drop]
      omega
    · cases hl
theorem shr_one {σ : Option (List UInt8)} (h : Shr σ) : Shr (oneR σ).2.2 := by
  unfold oneR
  split
  · exact shr_byte (shr_int h)
  · split
    · exact shr_text (shr_byte (shr_int h))
    · exact shr_byte (shr_int h)
end Go.Proofs.Ythcnoamgkkbkcaa
