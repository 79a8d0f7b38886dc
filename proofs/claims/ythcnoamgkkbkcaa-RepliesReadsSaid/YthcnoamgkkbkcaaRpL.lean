/- Chapter 15, replies: plainly: what Take and Put answer behind each other. -/
import Derived.Test.YthcnoamgkkbkcaaRpP
namespace Go.Proofs.Ythcnoamgkkbkcaa
open Go.RowKit

theorem ahd_of {l : List En} (h : Rs l) {j : Nat} (hj : j < l.length) : ahd l l[j].id = j := by
  have h1 : ¬ j < ahd l l[j].id := fun hc => by
    have := ahd_lt h hj hc
    omega
  have h2 : ¬ ahd l l[j].id < j := fun hc => by
    have a1 := ahd_ge h (id := l[j].id) (j := ahd l l[j].id) (by omega) (Nat.le_refl _)
    have a2 := List.pairwise_iff_getElem.1 h (ahd l l[j].id) j (by omega) hj hc
    omega
  omega
theorem at_of {l : List En} (h : Rs l) {e : En} (he : e ∈ l) : l[ahd l e.id]? = some e := by
  obtain ⟨j, hj, rfl⟩ := List.getElem_of_mem he
  rw [ahd_of h hj, List.getElem?_eq_getElem hj]
/-- What a call comes to. -/
theorem rTake_cases (S : RS) (c id : Int) : (¬ mayR c id ∧ rTake S c id = (S, 0, ByteArray.empty)) ∨ (mayR c id ∧ ((∃ e, (S.L c)[ahd (S.L c) id]? = some e ∧ e.id = id ∧ ((e.busy = true ∧ rTake S c id = (S, 3, ByteArray.empty)) ∨ (e.busy = false ∧ rTake S c id = (S, 2, e.rep)))) ∨
    ((∀ e, (S.L c)[ahd (S.L c) id]? = some e → e.id ≠ id) ∧ ((((S.L c).length : Int) = S.room ∧ ahd (S.L c) id = 0 ∧ rTake S c id = (S, 4, ByteArray.empty)) ∨ (¬ (((S.L c).length : Int) = S.room ∧ ahd (S.L c) id = 0) ∧ rTake S c id = (⟨S.room, setL S.L c (lastOf S.room (putIn (S.L c) id))⟩, 1, ByteArray.empty)))))) := by
  by_cases hm : mayR c id
  rotate_left
  · refine .inl ⟨hm, ?_⟩
    unfold rTake
    rw [if_neg hm]
  refine .inr ⟨hm, ?_⟩
  by_cases hn : ∀ e, (S.L c)[ahd (S.L c) id]? = some e → e.id ≠ id
  · refine .inr ⟨hn, ?_⟩
    rw [rTake_no hm hn]
    by_cases hf : ((S.L c).length : Int) = S.room ∧ ahd (S.L c) id = 0
    · rw [if_pos hf]
      exact .inl ⟨hf.1, hf.2, rfl⟩
    · rw [if_neg hf]
      exact .inr ⟨hf, rfl⟩
  · obtain ⟨e, e0, hid⟩ : ∃ e, (S.L c)[ahd (S.L c) id]? = some e ∧ e.id = id := by
      rcases e1 : (S.L c)[ahd (S.L c) id]? with _ | e
      · exact absurd (fun e h => by rw [e1] at h; cases h) hn
      · refine ⟨e, rfl, Classical.not_not.1 (fun hc => hn (fun e' h => ?_))⟩
        rw [e1] at h
        cases h
        exact hc
    refine .inl ⟨e, e0, hid, ?_⟩
    unfold rTake
    rw [if_pos hm, e0]
    simp only
    rw [if_pos hid]
    by_cases hb : e.busy = true
    · rw [if_pos hb]
      exact .inl ⟨hb, rfl⟩
    · rw [if_neg hb]
      exact .inr ⟨by simpa using hb, rfl⟩
theorem rTake_room (S : RS) (c id : Int) : (rTake S c id).1.room = S.room := by
  rcases rTake_cases S c id with ⟨-, e⟩ | ⟨-, ⟨x, -, -, ⟨-, e⟩ | ⟨-, e⟩⟩ | ⟨-, ⟨-, -, e⟩ | ⟨-, e⟩⟩⟩ <;> rw [e]
theorem rTake_ok {S : RS} (h : ROk S) (c id : Int) : ROk (rTake S c id).1 := by
  rcases rTake_cases S c id with ⟨-, e⟩ | ⟨hm, ⟨x, -, -, ⟨-, e⟩ | ⟨-, e⟩⟩ | ⟨hn, ⟨-, -, e⟩ | ⟨-, e⟩⟩⟩ <;> rw [e]
  · exact h
  · exact h
  · exact h
  · exact h
  · exact (h.take hm hn).1
theorem rTake_at {S : RS} {c id : Int} {e : En} (hm : mayR c id) (e0 : (S.L c)[ahd (S.L c) id]? = some e) (hid : e.id = id) : rTake S c id = if e.busy = true then (S, 3, ByteArray.empty) else (S, 2, e.rep) := by
  unfold rTake
  rw [if_pos hm, e0]
  simp only
  rw [if_pos hid]
theorem lastOf_keeps {room : Int} {l : List En} {j : Nat} (hr : 1 ≤ room) (hl : (l.length : Int) ≤ room + 1) (hj : j < l.length) (hf : ¬ ((l.length : Int) = room + 1 ∧ j = 0)) : l[j] ∈ lastOf room l := by
  unfold lastOf
  have : l.length - room.toNat ≤ j := by omega
  refine List.mem_of_getElem? (i := j - (l.length - room.toNat)) ?_
  rw [List.getElem?_drop, List.getElem?_eq_getElem (by omega)]
  congr 2
  omega
theorem putIn_at (l : List En) (id : Int) : (putIn l id)[ahd l id]? = some ⟨id, true, ByteArray.empty⟩ := by
  unfold putIn
  have := ahd_le l id
  rw [List.getElem?_append_right (by rw [List.length_take]; omega), List.length_take, show ahd l id - min (ahd l id) l.length = 0 by omega]
  rfl
/-- What was fresh is busy. -/
theorem rTake_fresh {S : RS} (h : ROk S) {c id : Int} (hf : (rTake S c id).2.1 = 1) : rTake (rTake S c id).1 c id = ((rTake S c id).1, 3, ByteArray.empty) := by
  have hk := rTake_ok h c id
  rcases rTake_cases S c id with ⟨-, e⟩ | ⟨hm, ⟨x, -, -, ⟨-, e⟩ | ⟨-, e⟩⟩ | ⟨hn, ⟨-, -, e⟩ | ⟨hfull, e⟩⟩⟩
  · rw [e] at hf; exact absurd (show (0 : Int) = 1 from hf) (by decide)
  · rw [e] at hf; exact absurd (show (3 : Int) = 1 from hf) (by decide)
  · rw [e] at hf; exact absurd (show (2 : Int) = 1 from hf) (by decide)
  · rw [e] at hf; exact absurd (show (4 : Int) = 1 from hf) (by decide)
  · rw [e] at hk ⊢
    simp only at hk ⊢
    have hlen := h.len c
    have hroom := h.room
    have hpl := putIn_len (S.L c) id
    have hle := ahd_le (S.L c) id
    have hpa := putIn_at (S.L c) id
    obtain ⟨hp1, hp2⟩ := List.getElem?_eq_some_iff.1 hpa
    have hmem : (⟨id, true, ByteArray.empty⟩ : En) ∈ lastOf S.room (putIn (S.L c) id) := by
      have := lastOf_keeps (room := S.room) (l := putIn (S.L c) id) (j := ahd (S.L c) id) (by omega) (by rw [hpl]; omega) hp1 (fun hc => hfull ⟨by rw [hpl] at hc; omega, hc.2⟩)
      rw [hp2] at this
      exact this
    have hs := hk.srt c
    simp only [setL_same] at hs
    have hat := at_of hs hmem
    rw [rTake_at (e := ⟨id, true, ByteArray.empty⟩) hm (by simp only [setL_same]; exact hat) rfl]
    rfl
theorem rTake_else {S : RS} {c id : Int} (hf : (rTake S c id).2.1 ≠ 1) : (rTake S c id).1 = S := by
  rcases rTake_cases S c id with ⟨-, e⟩ | ⟨hm, ⟨x, -, -, ⟨-, e⟩ | ⟨-, e⟩⟩ | ⟨hn, ⟨-, -, e⟩ | ⟨hfull, e⟩⟩⟩ <;> rw [e] at hf ⊢
  exact absurd rfl hf
theorem rTake_five (S : RS) (c id : Int) : (rTake S c id).2.1 = 0 ∨ (rTake S c id).2.1 = 1 ∨ (rTake S c id).2.1 = 2 ∨ (rTake S c id).2.1 = 3 ∨ (rTake S c id).2.1 = 4 := by
  rcases rTake_cases S c id with ⟨-, e⟩ | ⟨hm, ⟨x, -, -, ⟨-, e⟩ | ⟨-, e⟩⟩ | ⟨hn, ⟨-, -, e⟩ | ⟨hfull, e⟩⟩⟩ <;> rw [e] <;> simp
theorem rPut_cases (S : RS) (c id : Int) (s : ByteArray) : ((rPut S c id s) = (S, false)) ∨ (mayR c id ∧ s.size ≤ 4096 ∧ ∃ e, (S.L c)[ahd (S.L c) id]? = some e ∧ e.id = id ∧ e.busy = true ∧ rPut S c id s = (⟨S.room, setL S.L c ((S.L c).set (ahd (S.L c) id) ⟨id, false, s⟩)⟩, true)) := by
  unfold rPut
  by_cases hm : mayR c id ∧ s.size ≤ 4096
  · rw [if_pos hm]
    rcases e0 : (S.L c)[ahd (S.L c) id]? with _ | e
    · exact .inl rfl
    · simp only
      by_cases hb : e.id = id ∧ e.busy = true
      · rw [if_pos hb]
        exact .inr ⟨hm.1, hm.2, e, rfl, hb.1, hb.2, rfl⟩
      · rw [if_neg hb]
        exact .inl rfl
  · rw [if_neg hm]
    exact .inl rfl
theorem rPut_room (S : RS) (c id : Int) (s : ByteArray) : (rPut S c id s).1.room = S.room := by
  rcases rPut_cases S c id s with e | ⟨-, -, x, -, -, -, e⟩ <;> rw [e]
theorem rPut_ok {S : RS} (h : ROk S) (c id : Int) (s : ByteArray) : ROk (rPut S c id s).1 := by
  rcases rPut_cases S c id s with e | ⟨hm, hs, x, e0, hid, hb, e⟩ <;> rw [e]
  · exact h
  · exact h.put ⟨hm.1, hm.2.1⟩ hs e0 hid
/-- What was put is told again. -/
theorem rPut_then {S : RS} (h : ROk S) {c id : Int} {s : ByteArray} (hf : (rPut S c id s).2 = true) : (rTake S c id).2.1 = 3 ∧ rTake (rPut S c id s).1 c id = ((rPut S c id s).1, 2, s) := by
  have hk := rPut_ok h c id s
  rcases rPut_cases S c id s with e | ⟨hm, hs, x, e0, hid, hb, e⟩
  · rw [e] at hf; cases hf
  · refine ⟨by rw [rTake_at hm e0 hid, if_pos hb], ?_⟩
    rw [e] at hk ⊢
    simp only at hk ⊢
    obtain ⟨hl, he⟩ := List.getElem?_eq_some_iff.1 e0
    have hmem : (⟨id, false, s⟩ : En) ∈ (S.L c).set (ahd (S.L c) id) ⟨id, false, s⟩ := List.mem_of_getElem? (i := ahd (S.L c) id) (by rw [List.getElem?_set_self hl])
    have hsr := hk.srt c
    simp only [setL_same] at hsr
    have hat := at_of hsr hmem
    rw [rTake_at (e := ⟨id, false, s⟩) hm (by simp only [setL_same]; exact hat) rfl]
    rfl
end Go.Proofs.Ythcnoamgkkbkcaa
