/- Chapter 27, lease: what Grant may do; what holds of all that were granted. -/
import Derived.Test.YtpebilhdlblgoaaLe11
import Derived.Test.YtpebilhdlblgoaaLe8
namespace Go.Proofs.Ytpebilhdlblgoaa
open Go.RowKit

/-- What a Grant is: refused; a new lease; an elder one, longer. -/
def GrR (S : Les) (y : Lse) (ec : Int) (S' : Les) : Prop :=
  (ec ≠ 0 ∧ S' = S) ∨ (ec = 0 ∧ 1 ≤ y.ino ∧ y.ino < 256 ∧ y.tok = S.tok + 1 ∧ S' = ⟨upm S.f y.ino (some y), S.tok + 1⟩) ∨
    (ec = 0 ∧ ∃ x, S.f y.ino = some x ∧ y.cli = x.cli ∧ y.tok = x.tok ∧ S' = ⟨upm S.f y.ino (some y), S.tok⟩)
theorem grant_gr {w : World} {g c : Nat} {S : Les} (h : LV w g c S) (hd : LOk S) (ht0 : 0 ≤ S.tok) (ht1 : S.tok ≤ 1099511627776) (i cl nw tk : Int) :
    Calls Try.prog 12 #[.pointer (some ⟨g, 0, none⟩), .int .i64 i, .int .i64 cl, .int .i64 nw, .int .i64 tk] w fun e w' => ∃ y ec S', e = .returned (.tuple #[.agg #[.int .i64 y.ino, .int .i64 y.cli, .int .i64 y.til, .int .i64 y.tok], .int .i64 ec]) ∧ GrR S y ec S' ∧ LV w' g c S' ∧ Fr (fun j => j = g ∨ j = c) w w' := by
  by_cases hb : badG i cl nw tk
  · refine (grant_bad i cl nw tk w hb).mono ?_
    rintro e w' ⟨rfl, hbl⟩
    exact ⟨noL, 1, S, rfl, .inl ⟨by decide, rfl⟩, h.below hbl, Fr.of_below hbl⟩
  · have hb' := hb
    unfold badG at hb'
    by_cases ht : (oldL S i).til ≤ nw
    · refine (grant_new h i cl nw tk hb _ rfl ht ht0 ht1).mono ?_
      rintro e w' ⟨rfl, hv, hf⟩
      exact ⟨⟨i, cl, nw + tk, S.tok + 1⟩, 0, _, rfl, .inr (.inl ⟨rfl, by show 1 ≤ i; omega, by show i < 256; omega, rfl, rfl⟩), hv, hf⟩
    · have hsome : S.f i = some (oldL S i) := by
        rcases e : S.f i with _ | x
        · exfalso
          have : oldL S i = noL := by unfold oldL; rw [e]; rfl
          rw [this] at ht
          simp only [noL] at ht
          omega
        · unfold oldL
          rw [e]
          rfl
      by_cases hc : (oldL S i).cli = cl
      · have hin := (hd _ _ hsome).1
        obtain ⟨M, hM⟩ : ∃ M, M = if nw + tk > (oldL S i).til then nw + tk else (oldL S i).til := ⟨_, rfl⟩
        refine (grant_renew h i cl nw tk hb _ rfl ht hc M hM).mono ?_
        rintro e w' ⟨rfl, hv, hf⟩
        refine ⟨⟨(oldL S i).ino, (oldL S i).cli, M, (oldL S i).tok⟩, 0, _, rfl, .inr (.inr ⟨rfl, oldL S i, by show S.f (oldL S i).ino = _; rw [hin]; exact hsome, rfl, rfl, ?_⟩), hv, hf⟩
        simp only [hin]
      · refine (grant_held h i cl nw tk hb _ rfl ht hc).mono ?_
        rintro e w' ⟨rfl, hbl⟩
        exact ⟨noL, 11, S, rfl, .inl ⟨by decide, rfl⟩, h.below hbl, Fr.of_below hbl⟩
/-- What holds of the leases S when all of A were granted, in at most n deeds. -/
structure OneI (S : Les) (A : List Lse) (n : Nat) : Prop where
  ok : LOk S
  t0 : 0 ≤ S.tok
  tn : S.tok ≤ n
  top : ∀ a ∈ A, a.tok ≤ S.tok
  cur : ∀ k x, S.f k = some x → ∀ a ∈ A, (a.tok = x.tok → a.ino = x.ino ∧ a.cli = x.cli) ∧ (a.ino = x.ino → a.tok ≤ x.tok)
  has : ∀ k x, S.f k = some x → ∃ a ∈ A, a.tok = x.tok ∧ a.ino = x.ino
theorem oneI_nil : OneI les0 [] 0 := ⟨fun k x h => by simp [les0] at h, by decide, by decide, fun a h => by simp at h, fun k x h => by simp [les0] at h, fun k x h => by simp [les0] at h⟩
theorem OneI.more {S : Les} {A : List Lse} {n : Nat} (h : OneI S A n) : OneI S A (n + 1) := ⟨h.ok, h.t0, by have := h.tn; omega, h.top, h.cur, h.has⟩
theorem OneI.sub {S S' : Les} {A : List Lse} {n : Nat} (h : OneI S A n) (ht : S'.tok = S.tok) (hs : ∀ k x, S'.f k = some x → S.f k = some x) : OneI S' A n :=
  ⟨fun k x e => h.ok k x (hs k x e), by rw [ht]; exact h.t0, by rw [ht]; exact h.tn, by rw [ht]; exact h.top, fun k x e => h.cur k x (hs k x e), fun k x e => h.has k x (hs k x e)⟩
theorem OneI.drop {S : Les} {A : List Lse} {n : Nat} (h : OneI S A n) (i cl tk : Int) : OneI (dropL S i cl tk).1 A n := by
  unfold dropL
  split
  · split
    · refine h.sub rfl (fun k x e => ?_)
      have e' : upm S.f i none k = some x := e
      by_cases hk : k = i
      · subst hk
        rw [upm_same] at e'
        cases e'
      · rwa [upm_other _ _ hk] at e'
    · exact h
  · exact h
theorem OneI.sweep {S : Les} {A : List Lse} {n : Nat} (h : OneI S A n) (nw : Int) : OneI (sweepL S nw) A n := by
  refine h.sub rfl (fun k x e => ?_)
  have e' : (S.f k).filter (fun x => !decide (x.til ≤ nw)) = some x := e
  rw [Option.filter_eq_some_iff] at e'
  exact e'.1
def Fits (y a : Lse) : Prop := ¬ (y.tok < a.tok ∧ a.ino = y.ino) ∧ (a.tok = y.tok → a.ino = y.ino ∧ a.cli = y.cli)
theorem OneI.fits {S S' : Les} {A : List Lse} {n : Nat} {y : Lse} {ec : Int} (h : OneI S A n) (hg : GrR S y ec S') (he : ec = 0) : ∀ a ∈ A, Fits y a := fun a ha => by
  rcases hg with ⟨h1, -⟩ | ⟨-, -, -, h4, -⟩ | ⟨-, x, h2, h3, h4, -⟩
  · exact absurd he h1
  · have := h.top a ha
    exact ⟨fun ⟨h1, _⟩ => by omega, fun h1 => by omega⟩
  · have h5 := h.cur _ _ h2 a ha
    have h6 := (h.ok _ _ h2).1
    refine ⟨fun ⟨h7, h8⟩ => ?_, fun h7 => ?_⟩
    · have := h5.2 (by rw [h8, h6])
      omega
    · have := h5.1 (by omega)
      rw [h6] at this
      exact ⟨this.1, by rw [this.2, h3]⟩
theorem OneI.grant {S S' : Les} {A : List Lse} {n : Nat} {y : Lse} {ec : Int} (h : OneI S A n) (hg : GrR S y ec S') (he : ec = 0) : OneI S' (A ++ [y]) (n + 1) := by
  have hfit := h.fits hg he
  have hold : ∀ k x, S.f k = some x → x.ino = k ∧ x.tok ≤ S.tok := fun k x e => by
    obtain ⟨a, ha, h1, -⟩ := h.has k x e
    have := h.top a ha
    exact ⟨(h.ok k x e).1, by omega⟩
  have hy : 1 ≤ y.ino ∧ y.ino < 256 ∧ y.tok ≤ S'.tok ∧ S'.f = upm S.f y.ino (some y) ∧ S.tok ≤ S'.tok ∧ S'.tok ≤ S.tok + 1 ∧ ∀ k x, k ≠ y.ino → S.f k = some x → y.tok ≠ x.tok := by
    rcases hg with ⟨h1, -⟩ | ⟨-, h2, h3, h4, rfl⟩ | ⟨-, x, h2, h3, h4, rfl⟩
    · exact absurd he h1
    · exact ⟨h2, h3, by show y.tok ≤ S.tok + 1; omega, rfl, by show S.tok ≤ S.tok + 1; omega, Int.le_refl _, fun k x _ e h5 => by have := (hold k x e).2; omega⟩
    · have h6 := h.ok _ _ h2
      have h7 := hold _ _ h2
      refine ⟨h6.2.1, h6.2.2, by show y.tok ≤ S.tok; omega, rfl, Int.le_refl _, by show S.tok ≤ S.tok + 1; omega, fun k x' hk e h5 => ?_⟩
      obtain ⟨a, ha, h8, h9⟩ := h.has _ _ h2
      have h10 := ((h.cur k x' e a ha).1 (by omega)).1
      have h11 := (hold k x' e).1
      exact hk (by rw [← h11, ← h10, h9, h6.1])
  obtain ⟨y1, y2, y3, y4, y5, y6, y7⟩ := hy
  refine ⟨fun k x e => ?_, by have := h.t0; omega, by have := h.tn; omega, fun a ha => ?_, fun k x e a ha => ?_, fun k x e => ?_⟩
  · rw [y4] at e
    by_cases hk : k = y.ino
    · subst hk
      rw [upm_same] at e
      cases e
      exact ⟨rfl, y1, y2⟩
    · rw [upm_other _ _ hk] at e
      exact h.ok k x e
  · rcases List.mem_append.1 ha with ha | ha
    · have := h.top a ha
      omega
    · simp at ha
      subst ha
      exact y3
  · rw [y4] at e
    by_cases hk : k = y.ino
    · subst hk
      rw [upm_same] at e
      cases e
      rcases List.mem_append.1 ha with ha | ha
      · have := hfit a ha
        exact ⟨this.2, fun h1 => by have := this.1; by_cases h2 : y.tok < a.tok; exact absurd ⟨h2, h1⟩ this; omega⟩
      · simp at ha
        subst ha
        exact ⟨fun _ => ⟨rfl, rfl⟩, fun _ => Int.le_refl _⟩
    · rw [upm_other _ _ hk] at e
      rcases List.mem_append.1 ha with ha | ha
      · exact h.cur k x e a ha
      · simp at ha
        subst ha
        exact ⟨fun h1 => absurd h1 (y7 k x hk e), fun h1 => absurd (by rw [h1, (h.ok k x e).1]) hk⟩
  · rw [y4] at e
    by_cases hk : k = y.ino
    · subst hk
      rw [upm_same] at e
      cases e
      exact ⟨y, by simp, rfl, rfl⟩
    · rw [upm_other _ _ hk] at e
      obtain ⟨a, ha, h1⟩ := h.has k x e
      exact ⟨a, by simp [ha], h1⟩
/-- No two clients' leases of one inode pass. -/
theorem chk_one {S : Les} {a b : Lse} (nw : Int) (h1 : a.ino = b.ino) (h2 : a.cli ≠ b.cli) (h3 : chkL S a.ino a.cli a.tok nw = true) : chkL S b.ino b.cli b.tok nw = false := by
  unfold chkL at h3 ⊢
  rw [h1] at h3
  rcases e : S.f b.ino with _ | x
  · rfl
  · rw [e] at h3
    simp at h3 ⊢
    intro h4 h5
    exact absurd (h3.1.1.2.symm.trans h5) h2
end Go.Proofs.Ytpebilhdlblgoaa
