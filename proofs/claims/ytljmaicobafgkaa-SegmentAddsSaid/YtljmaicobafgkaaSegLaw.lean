/- Chapter 31, segment: what Open reads of what Seal wrote, plain. -/
import Derived.Test.YtljmaicobafgkaaSeg10
import Derived.Test.YtljmaicobafgkaaPure2
import Derived.Test.YtljmaicobafgkaaFrAwake
namespace Go.Proofs.Ytljmaicobafgkaa
open Go.RowKit

/-- A piece, with its body. -/
structure Pc where
  kind : Int
  inode : Int
  block : Int
  body : ByteArray
def Pc.ok (x : Pc) : Prop := mayE x.kind x.inode x.block
def Pc.ent (x : Pc) (p : Nat) : Ent := ⟨x.kind, x.inode, x.block, p, x.body.size⟩
def entsAt : Nat → List Pc → List Ent
  | _, [] => []
  | p, x :: l => x.ent p :: entsAt (p + x.body.size) l
def pcText (l : List Pc) : List UInt8 := l.flatMap fun x => x.body.data.toList
theorem pcText_cons (x : Pc) (l : List Pc) : pcText (x :: l) = x.body.data.toList ++ pcText l := rfl
theorem pcText_snoc (l : List Pc) (x : Pc) : pcText (l ++ [x]) = pcText l ++ x.body.data.toList := by simp [pcText]
theorem entsAt_len : ∀ (p : Nat) (l : List Pc), (entsAt p l).length = l.length
  | _, [] => rfl
  | p, x :: l => by simp [entsAt, entsAt_len (p + x.body.size) l]
theorem entsAt_snoc : ∀ (l : List Pc) (p : Nat) (x : Pc), entsAt p (l ++ [x]) = entsAt p l ++ [x.ent (p + (pcText l).length)]
  | [], p, x => by simp [entsAt, pcText]
  | y :: l, p, x => by
    rw [List.cons_append, entsAt, entsAt_snoc l (p + y.body.size) x, entsAt, pcText_cons, List.length_append, ← size_list, Nat.add_assoc]
    rfl
theorem pc_enc (e : Ent) (r : List UInt8) (h : mayE e.kind e.inode e.block) (h0 : 0 ≤ e.len) (h1 : e.len ≤ 1073741824) :
    pcK (some (entB e ++ r)) = e.kind ∧ pcI (some (entB e ++ r)) = e.inode ∧ pcB (some (entB e ++ r)) = e.block ∧ pcL (some (entB e ++ r)) = e.len ∧ pcS (some (entB e ++ r)) = some r := by
  obtain ⟨a0, a1, b0, b1, c0, c1⟩ := h
  have hx : entB e ++ r = ub e.kind :: (num e.inode ++ (num e.block ++ (num e.len ++ r))) := by simp [entB]
  have h0 : rByte (some (entB e ++ r)) = (e.kind, some (num e.inode ++ (num e.block ++ (num e.len ++ r)))) := by
    rw [hx]
    show (((ub e.kind).toNat : Int), _) = _
    rw [ub_small (by omega) (by omega)]
  have h1 := rInt_num e.inode (num e.block ++ (num e.len ++ r)) (by omega) (by omega)
  have h2 := rInt_num e.block (num e.len ++ r) (by omega) (by omega)
  have h3 := rInt_num e.len r (by omega) (by omega)
  refine ⟨?_, ?_, ?_, ?_, ?_⟩
  · unfold pcK
    rw [h0]
  · unfold pcI
    rw [h0]
    dsimp only
    rw [h1]
  · unfold pcB
    rw [h0]
    dsimp only
    rw [h1]
    dsimp only
    rw [h2]
  · unfold pcL
    rw [h0]
    dsimp only
    rw [h1]
    dsimp only
    rw [h2]
    dsimp only
    rw [h3]
  · unfold pcS
    rw [h0]
    dsimp only
    rw [h1]
    dsimp only
    rw [h2]
    dsimp only
    rw [h3]
theorem segRd_enc (tl : Nat) (r : List UInt8) (ht : tl ≤ 1073741824) : ∀ (l : List Pc) (p : Nat) (out : List Ent), (∀ x ∈ l, x.ok) → p + (pcText l).length ≤ tl →
    segRd tl l.length (some ((entsAt p l).flatMap entB ++ r)) p out = (out ++ entsAt p l, some r, ((p + (pcText l).length : Nat) : Int))
  | [], p, out, _, _ => by simp [segRd, entsAt, pcText]
  | x :: l, p, out, hok, hp => by
    rw [pcText_cons, List.length_append, ← size_list] at hp
    have hx : x.ok := hok x (List.mem_cons_self ..)
    have hl : (entsAt p (x :: l)).flatMap entB ++ r = entB (x.ent p) ++ ((entsAt (p + x.body.size) l).flatMap entB ++ r) := by
      simp [entsAt]
    obtain ⟨e1, e2, e3, e4, e5⟩ := pc_enc (x.ent p) ((entsAt (p + x.body.size) l).flatMap entB ++ r) hx (by simp [Pc.ent]) (by simp only [Pc.ent]; omega)
    rw [hl, List.length_cons, segRd_go (by
      unfold pcOk
      rw [e1, e2, e3, e4]
      refine ⟨hx, ?_, ?_⟩ <;> simp only [Pc.ent] <;> omega)]
    rw [e5, e4]
    have hpe : pcE (some (entB (x.ent p) ++ ((entsAt (p + x.body.size) l).flatMap entB ++ r))) (p : Int) = x.ent p := by
      unfold pcE
      rw [e1, e2, e3, e4]
      rfl
    rw [hpe, show (p : Int) + (x.ent p).len = ((p + x.body.size : Nat) : Int) from by simp [Pc.ent]]
    rw [segRd_enc tl r ht l (p + x.body.size) (out ++ [x.ent p]) (fun y hy => hok y (List.mem_cons_of_mem _ hy)) (by omega)]
    rw [pcText_cons, List.length_append, ← size_list]
    simp [entsAt, Nat.add_assoc]
end Go.Proofs.Ytljmaicobafgkaa
