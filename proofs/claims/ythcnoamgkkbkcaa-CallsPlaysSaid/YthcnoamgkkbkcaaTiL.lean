/- Chapter 07, timers: rows of timers in order: set, stopped, due. -/
import Derived.Test.YthcnoamgkkbkcaaTiH
namespace Go.Proofs.Ythcnoamgkkbkcaa

theorem Tlt.trans {a b c : Tm} (h1 : Tlt a b) (h2 : Tlt b c) : Tlt a c := by unfold Tlt at *; omega
theorem Tlt.irrefl {a : Tm} (h : Tlt a a) : False := by unfold Tlt at h; omega
theorem Tlt.of_ne {a b : Tm} (h : ¬ Tlt b a) (hi : a.id ≠ b.id) : Tlt a b := by unfold Tlt at *; omega
def tStop (x : List Tm) (id : Int) : List Tm := x.filter fun t => t.id != id
def tIns (x : List Tm) (t : Tm) : List Tm := x.takeWhile (fun y => tlt y t) ++ t :: x.dropWhile (fun y => tlt y t)
def badT (id at_ : Int) : Prop := id < 0 ∨ at_ < 0 ∨ 1099511627776 < at_
instance (id at_ : Int) : Decidable (badT id at_) := by unfold badT; exact inferInstance
/-- Set: what there is, the error. -/
def tSet (x : List Tm) (id at_ : Int) : List Tm × Int := if badT id at_ then (x, 1) else if 64 ≤ (tStop x id).length then (x, 5) else (tIns (tStop x id) ⟨id, at_⟩, 0)
def tDue (x : List Tm) (now : Int) : List Tm × List Int := (x.filter fun t => decide (now < t.at_), (x.filter fun t => decide (t.at_ ≤ now)).map (·.id))
/-- In order, of different numbers. -/
structure TOk (x : List Tm) : Prop where
  srt : x.Pairwise Tlt
  ids : (x.map (·.id)).Nodup
  few : x.length ≤ 64
  rng : ∀ t ∈ x, 0 ≤ t.id ∧ 0 ≤ t.at_ ∧ t.at_ ≤ 1099511627776
theorem tok_nil : TOk [] := ⟨.nil, List.nodup_nil, Nat.zero_le _, fun t h => by simp at h⟩
theorem filter_srt {x : List Tm} (h : x.Pairwise Tlt) (p : Tm → Bool) : (x.filter p).Pairwise Tlt := h.filter p
theorem TOk.filter {x : List Tm} (h : TOk x) (p : Tm → Bool) : TOk (x.filter p) :=
  ⟨h.srt.filter p, (List.filter_sublist.map _).nodup h.ids, Nat.le_trans (List.length_filter_le _ _) h.few, fun t ht => h.rng t (List.mem_filter.1 ht).1⟩
theorem tIns_perm (x : List Tm) (t : Tm) : (tIns x t).Perm (t :: x) := by
  unfold tIns
  have h : (x.takeWhile (fun y => tlt y t) ++ t :: x.dropWhile (fun y => tlt y t)).Perm (t :: (x.takeWhile (fun y => tlt y t) ++ x.dropWhile (fun y => tlt y t))) := List.perm_middle
  rwa [List.takeWhile_append_dropWhile] at h
theorem dropWhile_head {x : List Tm} {p : Tm → Bool} {y : Tm} {l : List Tm} (h : x.dropWhile p = y :: l) : p y = false := by
  induction x with
  | nil => simp at h
  | cons a x ih =>
    rw [List.dropWhile_cons] at h
    split at h
    · exact ih h
    · cases h
      simpa using (by assumption : ¬ p y = true)
theorem tIns_srt {x : List Tm} (h : x.Pairwise Tlt) {t : Tm} (hn : ∀ y ∈ x, y.id ≠ t.id) : (tIns x t).Pairwise Tlt := by
  have hsp : x.takeWhile (fun y => tlt y t) ++ x.dropWhile (fun y => tlt y t) = x := List.takeWhile_append_dropWhile
  have h0 := h
  rw [← hsp, List.pairwise_append] at h0
  obtain ⟨h1, h2, h3⟩ := h0
  have htw : ∀ y ∈ x.takeWhile (fun y => tlt y t), Tlt y t := fun y hy => (tlt_iff y t).1 (by
    have := List.all_takeWhile (p := fun y => tlt y t) (l := x)
    exact List.all_eq_true.1 this y hy)
  have hdw : ∀ y ∈ x.dropWhile (fun y => tlt y t), Tlt t y := by
    intro y hy
    rcases e : x.dropWhile (fun y => tlt y t) with _ | ⟨d, dl⟩
    · rw [e] at hy
      simp at hy
    · have hd := dropWhile_head e
      have hdm : d ∈ x := by rw [← hsp, e]; simp
      have htd : Tlt t d := Tlt.of_ne ((tlt_not d t).1 hd) (fun e2 => hn d hdm e2.symm)
      rw [e] at hy h2
      rcases List.mem_cons.1 hy with rfl | hy
      · exact htd
      · exact htd.trans ((List.pairwise_cons.1 h2).1 y hy)
  unfold tIns
  rw [List.pairwise_append]
  refine ⟨h1, List.pairwise_cons.2 ⟨hdw, h2⟩, fun a ha b hb => ?_⟩
  rcases List.mem_cons.1 hb with rfl | hb
  · exact htw a ha
  · exact h3 a ha b hb
theorem tStop_no {x : List Tm} {id : Int} : ∀ y ∈ tStop x id, y.id ≠ id := fun y hy => by
  have := (List.mem_filter.1 hy).2
  simpa using this
theorem TOk.ins {x : List Tm} (h : TOk x) {t : Tm} (hn : ∀ y ∈ x, y.id ≠ t.id) (hl : x.length < 64) (hr : 0 ≤ t.id ∧ 0 ≤ t.at_ ∧ t.at_ ≤ 1099511627776) : TOk (tIns x t) := by
  have hp := tIns_perm x t
  refine ⟨tIns_srt h.srt hn, ?_, ?_, fun y hy => ?_⟩
  · rw [(hp.map _).nodup_iff, List.map_cons, List.nodup_cons]
    refine ⟨fun hm => ?_, h.ids⟩
    obtain ⟨y, hy, e⟩ := List.mem_map.1 hm
    exact hn y hy e
  · rw [hp.length_eq, List.length_cons]
    omega
  · rcases List.mem_cons.1 (hp.mem_iff.1 hy) with rfl | hy
    · exact hr
    · exact h.rng y hy
theorem TOk.stop {x : List Tm} (h : TOk x) (id : Int) : TOk (tStop x id) := h.filter _
theorem TOk.set {x : List Tm} (h : TOk x) (id at_ : Int) : TOk (tSet x id at_).1 := by
  unfold tSet
  split
  · exact h
  · split
    · exact h
    · rename_i hb hl
      unfold badT at hb
      exact (h.stop id).ins tStop_no (by omega) ⟨by show 0 ≤ id; omega, by show 0 ≤ at_; omega, by show at_ ≤ _; omega⟩
theorem TOk.due {x : List Tm} (h : TOk x) (now : Int) : TOk (tDue x now).1 := h.filter _
theorem id_inj {x : List Tm} (h : (x.map (·.id)).Nodup) {a b : Tm} (ha : a ∈ x) (hb : b ∈ x) (e : a.id = b.id) : a = b := by
  induction x with
  | nil => simp at ha
  | cons c x ih =>
    rw [List.map_cons, List.nodup_cons] at h
    rcases List.mem_cons.1 ha with e1 | ha'
    · rcases List.mem_cons.1 hb with e2 | hb'
      · rw [e1, e2]
      · exact absurd (List.mem_map.2 ⟨b, hb', by rw [← e, e1]⟩) h.1
    · rcases List.mem_cons.1 hb with e2 | hb'
      · exact absurd (List.mem_map.2 ⟨a, ha', by rw [e, e2]⟩) h.1
      · exact ih h.2 ha' hb'
/-- Two rows in order of the same timers are one. -/
theorem srt_eq : ∀ {a b : List Tm}, a.Pairwise Tlt → b.Pairwise Tlt → a.Perm b → a = b
  | [], b, _, _, h => h.nil_eq
  | x :: a, [], _, _, h => by have := h.length_eq; simp at this
  | x :: a, y :: b, ha, hb, h => by
    rw [List.pairwise_cons] at ha hb
    have hxy : x = y := by
      rcases List.mem_cons.1 (h.mem_iff.1 (List.mem_cons_self)) with e | h1
      · exact e
      · rcases List.mem_cons.1 (h.mem_iff.2 (List.mem_cons_self)) with e | h2
        · exact e.symm
        · exact ((hb.1 x h1).trans (ha.1 y h2)).irrefl.elim
    subst hxy
    rw [srt_eq ha.2 hb.2 ((List.perm_cons x).1 h)]
theorem tStop_len {x : List Tm} (id : Int) : (tStop x id).length ≤ x.length := List.length_filter_le _ _
theorem tStop_none {x : List Tm} {id : Int} (h : ∀ y ∈ x, y.id ≠ id) : tStop x id = x := by
  unfold tStop
  rw [List.filter_eq_self]
  intro y hy
  simpa using h y hy
theorem tStop_some {x : List Tm} (hx : (x.map (·.id)).Nodup) {t : Tm} (h : t ∈ x) : (t :: tStop x t.id).Perm x := by
  induction x with
  | nil => simp at h
  | cons c x ih =>
    rw [List.map_cons, List.nodup_cons] at hx
    rcases List.mem_cons.1 h with rfl | h
    · have e : tStop (t :: x) t.id = x := by
        unfold tStop
        rw [List.filter_cons, if_neg (by simp)]
        exact tStop_none (fun y hy e => hx.1 (List.mem_map.2 ⟨y, hy, e⟩))
      rw [e]
    · have hc : c.id ≠ t.id := fun e => hx.1 (List.mem_map.2 ⟨t, h, e.symm⟩)
      have e : tStop (c :: x) t.id = c :: tStop x t.id := by
        unfold tStop
        rw [List.filter_cons, if_pos (by simpa using hc)]
      rw [e]
      exact (List.Perm.swap c t _).trans ((ih hx.2 h).cons c)
end Go.Proofs.Ythcnoamgkkbkcaa
