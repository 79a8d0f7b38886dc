/- Chapter 15, replies: plainly: what was laid is read; what is read was laid. -/
import Derived.Test.YthcnoamgkkbkcaaRpL
namespace Go.Proofs.Ythcnoamgkkbkcaa
open Go.RowKit

def EnOk (e : En) : Prop := (0 ≤ e.id ∧ e.id ≤ 2147483647) ∧ e.rep.size ≤ 4096 ∧ (e.busy = true → e.rep = ByteArray.empty)
theorem oneR_en {e : En} (h : EnOk e) (r : List UInt8) : oneR (some (enB e ++ r)) = (e, true, some r) := by
  obtain ⟨id, bz, rp⟩ := e
  obtain ⟨h1, h2, h3⟩ := h
  simp only at h1 h2 h3
  have hm : mayR 0 id := ⟨by decide, by decide, h1.1, by omega⟩
  have e1 : rInt (some (enB ⟨id, bz, rp⟩ ++ r)) = (id, some ((if bz = true then [1] else 0 :: textB rp.data.toList) ++ r)) := by
    unfold enB
    rw [List.append_assoc]
    exact rInt_num _ _ (by simp only; omega) (by simp only; omega)
  unfold oneR
  rw [e1]
  simp only
  cases bz
  · have e2 : rByte (some ((if false = true then [1] else 0 :: textB rp.data.toList) ++ r)) = (0, some (textB rp.data.toList ++ r)) := rfl
    rw [e2]
    simp only
    have e3 : rText (some (textB rp.data.toList ++ r)) = (rp.data.toList, some r) := rText_text _ _ (by rw [← size_list]; omega)
    rw [e3]
    simp only
    rw [if_neg (by decide), if_pos trivial, str_eta, decide_eq_true (show mayR 0 id ∧ rp.data.toList.length ≤ 4096 from ⟨hm, by rw [← size_list]; exact h2⟩)]
  · have e2 : rByte (some ((if true = true then [1] else 0 :: textB rp.data.toList) ++ r)) = (1, some r) := rfl
    rw [e2]
    simp only
    rw [if_pos trivial, decide_eq_true hm, h3 rfl]
theorem rdEs_ens : ∀ {l : List En} {last : Int} {r : List UInt8} {acc : List En}, Rs l → (∀ e ∈ l, EnOk e) → (∀ e ∈ l, last < e.id) → rdEs l.length last (some (l.flatMap enB ++ r)) acc = some (acc ++ l, some r)
  | [], last, r, acc, _, _, _ => by simp [rdEs]
  | e :: l, last, r, acc, hs, hk, hl => by
    have hs' := List.pairwise_cons.1 hs
    rw [List.length_cons, List.flatMap_cons, List.append_assoc, rdEs, oneR_en (hk e (by simp))]
    simp only
    rw [if_pos ⟨trivial, hl e (by simp)⟩, rdEs_ens hs'.2 (fun x hx => hk x (by simp [hx])) hs'.1, List.append_assoc]
    rfl
theorem rdC_ens {l : List En} {room : Int} {r : List UInt8} (hs : Rs l) (hk : ∀ e ∈ l, EnOk e) (h0 : l ≠ []) (hl : (l.length : Int) ≤ room) (hr : room ≤ 16) : rdC room (some (num l.length ++ l.flatMap enB ++ r)) = some (l, some r) := by
  have : 0 < l.length := List.length_pos_iff.2 h0
  unfold rdC
  rw [List.append_assoc, rInt_num _ _ (by omega) (by omega)]
  simp only
  rw [if_neg (by omega), Int.toNat_natCast, rdEs_ens hs hk (fun e he => by have := (hk e he).1; omega)]
  rfl
theorem ROk.en {S : RS} (h : ROk S) {c : Int} {e : En} (he : e ∈ S.L c) : EnOk e := ⟨h.rng c e he, h.rep c e he, h.bsy c e he⟩
theorem rByte_ub {n : Int} {r : List UInt8} (h0 : 0 ≤ n) (h1 : n < 256) : rByte (some (ub n :: r)) = (n, some r) := by
  show (((ub n).toNat : Int), some r) = _
  rw [ub_small h0 h1]
theorem rdAll_cls {S : RS} (h : ROk S) : ∀ {cs : List Int} {last : Int} {r : List UInt8} {L0 : Int → List En}, cs.Pairwise (· < ·) → (∀ c ∈ cs, last < c ∧ 0 ≤ c ∧ c < 64 ∧ S.L c ≠ []) →
    ∃ L, rdAll cs.length last (some (cs.flatMap (clB S) ++ r)) ⟨S.room, L0⟩ = some (⟨S.room, L⟩, some r) ∧ ∀ c, (c ∈ cs → L c = S.L c) ∧ (c ∉ cs → L c = L0 c)
  | [], last, r, L0, _, _ => ⟨L0, by simp [rdAll], fun c => ⟨fun hc => (List.not_mem_nil hc).elim, fun _ => rfl⟩⟩
  | c :: cs, last, r, L0, hs, hk => by
    have hs' := List.pairwise_cons.1 hs
    obtain ⟨h1, h2, h3, h4⟩ := hk c (by simp)
    obtain ⟨L, a1, a2⟩ := rdAll_cls h (cs := cs) (last := c) (r := r) (L0 := setL L0 c (S.L c)) hs'.2 (fun d hd => by
      obtain ⟨b1, b2⟩ := hk d (by simp [hd])
      exact ⟨hs'.1 d hd, b2⟩)
    refine ⟨L, ?_, fun d => ⟨fun hd => ?_, fun hd => ?_⟩⟩
    · rw [List.length_cons, List.flatMap_cons, List.append_assoc, rdAll]
      have e1 : clB S c ++ (cs.flatMap (clB S) ++ r) = ub c :: (num (S.L c).length ++ (S.L c).flatMap enB ++ (cs.flatMap (clB S) ++ r)) := by
        unfold clB
        simp
      rw [e1, rByte_ub h2 (by omega)]
      simp only
      rw [if_neg (by omega), rdC_ens (h.srt c) (fun e he => h.en he) h4 (h.len c) h.room.2]
      simp only
      exact a1
    · by_cases hdc : d ∈ cs
      · exact (a2 d).1 hdc
      · rw [(a2 d).2 hdc]
        rcases List.mem_cons.1 hd with rfl | hd
        · exact setL_same _ _ _
        · exact absurd hd hdc
    · rw [(a2 d).2 (fun hc => hd (by simp [hc])), setL_other _ _ (fun e => hd (by simp [e]))]
/-- What was laid is read. -/
theorem rRead_text {S : RS} (h : ROk S) : rRead (textR S) = some S := by
  have hr := h.room
  have hl := cls_len S
  have e0 : textR S = ub S.room :: (num (cls S).length ++ ((cls S).flatMap (clB S) ++ [])) := by
    unfold textR
    simp
  rw [e0]
  unfold rRead
  rw [rByte_ub (by omega) (by omega)]
  simp only
  rw [rInt_num _ _ (by omega) (by omega)]
  simp only
  rw [if_neg (by omega), Int.toNat_natCast]
  obtain ⟨L, a1, a2⟩ := rdAll_cls h (cs := cls S) (last := -1) (r := []) (L0 := fun _ => []) (cls_rising S) (fun c hc => by
    have h1 := cls_rng hc
    exact ⟨by omega, h1.1, h1.2, (cls_mem h c).1 hc⟩)
  rw [a1]
  simp only
  rw [show rDone (some []) = 0 from rfl, if_pos rfl]
  congr 1
  obtain ⟨room, L1⟩ := S
  simp only at a2 ⊢
  congr 1
  funext c
  by_cases hc : c ∈ cls ⟨room, L1⟩
  · exact (a2 c).1 hc
  · rw [(a2 c).2 hc]
    have := (not_congr (cls_mem h c)).1 hc
    simp only [ne_eq, Classical.not_not] at this
    exact this.symm
/-! What is read was laid. -/
theorem rInt_none : rInt none = (0, none) := rfl
theorem rByte_none : rByte none = (0, none) := rfl
theorem rText_none : rText none = ([], none) := rfl
theorem oneR_none : (oneR none).2.2 = none := by
  unfold oneR
  rw [rInt_none]
  simp only
  rw [rByte_none]
  simp only
  rw [if_neg (by decide), if_pos trivial, rText_none]
theorem oneR_inv {l r : List UInt8} (hg : (oneR (some l)).2.1 = true) (hr : (oneR (some l)).2.2 = some r) : l = enB (oneR (some l)).1 ++ r := by
  obtain ⟨n, q, hq⟩ : ∃ n q, rInt (some l) = (n, q) := ⟨_, _, rfl⟩
  unfold oneR at hg hr ⊢
  rw [hq] at hg hr ⊢
  simp only at hg hr ⊢
  rcases q with _ | q
  · rw [rByte_none] at hr
    simp only at hr
    rw [if_neg (by decide), if_pos trivial, rText_none] at hr
    cases hr
  · have hl := (rInt_inv hq).1
    obtain ⟨b, q2, hb⟩ : ∃ b q2, rByte (some q) = (b, q2) := ⟨_, _, rfl⟩
    rw [hb] at hg hr ⊢
    simp only at hg hr ⊢
    rcases q2 with _ | q2
    · have hb0 : b = 0 := by
        rcases q with _ | ⟨x, q⟩
        · cases hb
          rfl
        · cases hb
      rw [if_neg (by omega), if_pos hb0, rText_none] at hr
      cases hr
    · obtain ⟨x, hx, hbx⟩ := rByte_inv (l := q) (r := q2) (by rw [hb])
      rw [hb] at hbx
      simp only at hbx
      rw [hl, hx]
      by_cases h1 : b = 1
      · rw [if_pos h1] at hg hr ⊢
        simp only [Option.some.injEq] at hr
        have : x = 1 := by
          have := UInt8.toNat_inj (a := x) (b := 1)
          rw [← this]
          have : (1 : UInt8).toNat = 1 := rfl
          omega
        unfold enB
        simp only [if_true]
        rw [this, hr]
        simp
      · rw [if_neg h1] at hg hr ⊢
        by_cases h0 : b = 0
        · rw [if_pos h0] at hg hr ⊢
          have : x = 0 := by
            have := UInt8.toNat_inj (a := x) (b := 0)
            rw [← this]
            have : (0 : UInt8).toNat = 0 := rfl
            omega
          have ht := rText_inv hr
          unfold enB
          simp only [Bool.false_eq_true, if_false]
          rw [this, List.append_assoc, List.cons_append]
          rw [← ht]
        · rw [if_neg h0] at hg
          cases hg
theorem rdEs_none : ∀ (k : Nat) (last : Int) (acc : List En) {x : List En} {r : List UInt8}, rdEs k last none acc ≠ some (x, some r)
  | 0, last, acc, x, r, e => by
    simp only [rdEs, Option.some.injEq, Prod.mk.injEq] at e
    cases e.2
  | k + 1, last, acc, x, r, e => by
    rw [rdEs] at e
    split at e
    · rw [oneR_none] at e
      exact rdEs_none k _ _ e
    · cases e
theorem rdEs_inv : ∀ {k : Nat} {last : Int} {l r : List UInt8} {acc x : List En}, rdEs k last (some l) acc = some (x, some r) → ∃ y, x = acc ++ y ∧ y.length = k ∧ l = y.flatMap enB ++ r
  | 0, last, l, r, acc, x, e => by
    simp only [rdEs, Option.some.injEq, Prod.mk.injEq] at e
    obtain ⟨rfl, rfl⟩ := e
    exact ⟨[], by simp, rfl, rfl⟩
  | k + 1, last, l, r, acc, x, e => by
    rw [rdEs] at e
    split at e
    · rename_i hg
      rcases hr : (oneR (some l)).2.2 with _ | l2
      · rw [hr] at e
        exact absurd e (rdEs_none k _ _)
      · rw [hr] at e
        obtain ⟨y, rfl, rfl, h3⟩ := rdEs_inv e
        refine ⟨(oneR (some l)).1 :: y, by simp, rfl, ?_⟩
        rw [List.flatMap_cons, List.append_assoc, ← h3]
        exact oneR_inv hg.1 hr
    · cases e
theorem rdC_none (room : Int) : rdC room none = none := by
  unfold rdC
  rw [rInt_none]
  simp only
  rw [if_pos (by omega)]
theorem rdC_inv {room : Int} {l r : List UInt8} {x : List En} (e : rdC room (some l) = some (x, some r)) : x ≠ [] ∧ l = num x.length ++ x.flatMap enB ++ r := by
  obtain ⟨n, q, hq⟩ : ∃ n q, rInt (some l) = (n, q) := ⟨_, _, rfl⟩
  unfold rdC at e
  rw [hq] at e
  simp only at e
  split at e
  · cases e
  · rename_i hc
    rcases q with _ | q
    · exact absurd e (rdEs_none _ _ _)
    · obtain ⟨y, hy, h2, h3⟩ := rdEs_inv e
      rw [List.nil_append] at hy
      subst hy
      have hl := (rInt_inv hq).1
      refine ⟨fun h => ?_, ?_⟩
      · rw [h] at h2
        simp only [List.length_nil] at h2
        omega
      · rw [hl, h3, show (x.length : Int) = n from by omega, List.append_assoc]
theorem rdAll_none : ∀ (k : Nat) (last : Int) (S : RS) {x : RS} {r : List UInt8}, rdAll k last none S ≠ some (x, some r)
  | 0, last, S, x, r, e => by
    simp only [rdAll, Option.some.injEq, Prod.mk.injEq] at e
    cases e.2
  | k + 1, last, S, x, r, e => by
    rw [rdAll, rByte_none] at e
    simp only at e
    rw [rdC_none] at e
    split at e <;> cases e
theorem clB_eq {S S' : RS} {c : Int} (h : S.L c = S'.L c) : clB S c = clB S' c := by unfold clB; rw [h]
theorem flatMap_eq {α β : Type} {f g : α → List β} : ∀ {l : List α}, (∀ x ∈ l, f x = g x) → l.flatMap f = l.flatMap g
  | [], _ => rfl
  | x :: l, h => by rw [List.flatMap_cons, List.flatMap_cons, h x (by simp), flatMap_eq (fun y hy => h y (by simp [hy]))]
theorem rdAll_inv : ∀ {k : Nat} {last : Int} {l r : List UInt8} {S S' : RS}, rdAll k last (some l) S = some (S', some r) → S'.room = S.room ∧ ∃ cs : List Int, cs.length = k ∧ cs.Pairwise (· < ·) ∧ (∀ c ∈ cs, last < c ∧ c < 64 ∧ S'.L c ≠ []) ∧ (∀ c, c ∉ cs → S'.L c = S.L c) ∧ l = cs.flatMap (clB S') ++ r
  | 0, last, l, r, S, S', e => by
    simp only [rdAll, Option.some.injEq, Prod.mk.injEq] at e
    obtain ⟨rfl, rfl⟩ := e
    exact ⟨rfl, [], rfl, List.Pairwise.nil, (fun c hc => (List.not_mem_nil hc).elim), (fun _ _ => rfl), rfl⟩
  | k + 1, last, l, r, S, S', e => by
    obtain ⟨b, q, hb⟩ : ∃ b q, rByte (some l) = (b, q) := ⟨_, _, rfl⟩
    rw [rdAll, hb] at e
    simp only at e
    split at e
    · cases e
    · rename_i hc
      rcases q with _ | q
      · rw [rdC_none] at e
        cases e
      · rcases h2 : rdC S.room (some q) with _ | ⟨x, q2⟩
        · rw [h2] at e
          cases e
        · rw [h2] at e
          simp only at e
          rcases q2 with _ | q2
          · exact absurd e (rdAll_none _ _ _)
          · obtain ⟨a1, cs, a2, a3, a4, a5, a6⟩ := rdAll_inv e
            obtain ⟨hx, hq⟩ := rdC_inv h2
            obtain ⟨u, hu1, hu2⟩ := rByte_inv (l := l) (r := q) (by rw [hb])
            rw [hb] at hu2
            simp only at hu2
            have hbn : b ∉ cs := fun hm => by have := (a4 b hm).1; omega
            have hSb : S'.L b = x := by
              rw [a5 b hbn]
              exact setL_same _ _ _
            refine ⟨a1, b :: cs, by rw [List.length_cons, a2], List.pairwise_cons.2 ⟨fun d hd => (a4 d hd).1, a3⟩, fun d hd => ?_, fun d hd => ?_, ?_⟩
            · rcases List.mem_cons.1 hd with rfl | hd
              · rw [hSb]
                exact ⟨by omega, by omega, hx⟩
              · obtain ⟨b1, b2⟩ := a4 d hd
                exact ⟨by omega, b2⟩
            · rw [a5 d (fun h => hd (by simp [h]))]
              exact setL_other _ _ (fun h => hd (by simp [h]))
            · rw [List.flatMap_cons, List.append_assoc, ← a6, hu1, hq]
              unfold clB
              rw [hSb, hu2, ub_toNat]
              simp
/-- What is read was laid. -/
theorem rRead_inv {s : List UInt8} {S : RS} (e : rRead s = some S) : textR S = s := by
  obtain ⟨b, q, hb⟩ : ∃ b q, rByte (some s) = (b, q) := ⟨_, _, rfl⟩
  unfold rRead at e
  rw [hb] at e
  simp only at e
  split at e
  · cases e
  · rename_i hc
    rcases q with _ | q
    · rw [rInt_none] at e
      simp only at e
      rw [show (0 : Int).toNat = 0 from rfl, rdAll] at e
      simp only at e
      rw [if_neg (by decide)] at e
      cases e
    · obtain ⟨n, q2, hn⟩ : ∃ n q2, rInt (some q) = (n, q2) := ⟨_, _, rfl⟩
      rw [hn] at e hc
      simp only at e hc
      rcases h3 : rdAll n.toNat (-1) q2 ⟨b, fun _ => []⟩ with _ | ⟨S', σ⟩
      · rw [h3] at e
        cases e
      · rw [h3] at e
        simp only at e
        split at e
        · rename_i hd
          have hσ : σ = some [] := by
            unfold rDone at hd
            by_cases h : σ = some []
            · exact h
            · rw [if_neg h] at hd
              exact absurd hd (by decide)
          cases e
          subst hσ
          rcases q2 with _ | q2
          · exact absurd h3 (rdAll_none _ _ _)
          · obtain ⟨a1, cs, a2, a3, a4, a5, a6⟩ := rdAll_inv h3
            obtain ⟨u, hu1, hu2⟩ := rByte_inv (l := s) (r := q) (by rw [hb])
            rw [hb] at hu2
            simp only at hu2 a1
            have hq := (rInt_inv hn).1
            have hcs : cls S = cs := by
              refine rising_eq (cls_rising S) a3 (fun c => ⟨fun hm => ?_, fun hm => ?_⟩)
              · refine Classical.not_not.1 (fun hc2 => ?_)
                have h4 := a5 c hc2
                unfold cls at hm
                have h5 := (List.mem_filter.1 hm).2
                rw [h4] at h5
                simp at h5
              · obtain ⟨b1, b2, b3⟩ := a4 c hm
                unfold cls
                refine List.mem_filter.2 ⟨List.mem_map.2 ⟨c.toNat, List.mem_range.2 (by omega), by omega⟩, ?_⟩
                simpa using b3
            unfold textR
            rw [hcs, a1, hu1, hq, a6, hu2, ub_toNat, show (cs.length : Int) = n from by omega]
            simp
        · cases e
end Go.Proofs.Ythcnoamgkkbkcaa
