/- Chapter 31, segment: what Open reads, plain. -/
import Derived.Test.YtljmaicobafgkaaSeg9
import Derived.Test.YtljmaicobafgkaaReader
namespace Go.Proofs.Ytljmaicobafgkaa
open Go.RowKit

/-- One piece read: its numbers, and what is left. -/
def pcK (σ : Option (List UInt8)) : Int := (rByte σ).1
def pcI (σ : Option (List UInt8)) : Int := (rInt (rByte σ).2).1
def pcB (σ : Option (List UInt8)) : Int := (rInt (rInt (rByte σ).2).2).1
def pcL (σ : Option (List UInt8)) : Int := (rInt (rInt (rInt (rByte σ).2).2).2).1
def pcS (σ : Option (List UInt8)) : Option (List UInt8) := (rInt (rInt (rInt (rByte σ).2).2).2).2
/-- Does the piece go? -/
def pcOk (σ : Option (List UInt8)) (pos tl : Int) : Prop := mayE (pcK σ) (pcI σ) (pcB σ) ∧ 0 ≤ pcL σ ∧ pcL σ ≤ tl - pos
instance (σ : Option (List UInt8)) (pos tl : Int) : Decidable (pcOk σ pos tl) := by unfold pcOk; infer_instance
def pcE (σ : Option (List UInt8)) (pos : Int) : Ent := ⟨pcK σ, pcI σ, pcB σ, pos, pcL σ⟩
/-- Pieces read, one behind the other: those that went, what is left, and where the next one would begin; -1: one did not go. -/
def segRd (tl : Int) : Nat → Option (List UInt8) → Int → List Ent → List Ent × Option (List UInt8) × Int
  | 0, σ, pos, out => (out, σ, pos)
  | n + 1, σ, pos, out => if pcOk σ pos tl then segRd tl n (pcS σ) (pos + pcL σ) (out ++ [pcE σ pos]) else (out, pcS σ, -1)
theorem segRd_go {tl : Int} {n : Nat} {σ : Option (List UInt8)} {pos : Int} {out : List Ent} (h : pcOk σ pos tl) : segRd tl (n + 1) σ pos out = segRd tl n (pcS σ) (pos + pcL σ) (out ++ [pcE σ pos]) := if_pos h
theorem segRd_no {tl : Int} {n : Nat} {σ : Option (List UInt8)} {pos : Int} {out : List Ent} (h : ¬ pcOk σ pos tl) : segRd tl (n + 1) σ pos out = (out, pcS σ, -1) := if_neg h
end Go.Proofs.Ytljmaicobafgkaa
