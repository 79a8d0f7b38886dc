/- Layer 12: FramesBack, as its row asks for it. -/
import Derived.Test.YtljmaicobafgkaaFrBack
namespace Go.Proofs.Ytljmaicobafgkaa
open Go.RowKit

theorem chk_zero {k f t i : Int} {n : Nat} (h : chk k f t i n = 0) : msgOk k f t i ∧ n ≤ 4096 := by
  unfold chk at h
  by_cases h1 : msgOk k f t i
  · rw [if_pos h1] at h
    by_cases h2 : 4096 < n
    · rw [if_pos h2] at h
      omega
    · exact ⟨h1, by omega⟩
  · rw [if_neg h1] at h
    omega
/-- What Encode gives: a string that is read as the message, or an error. -/
theorem enc_cases (k f t i : Int) (b : ByteArray) (hb : b.size ≤ 9223372036854775807) :
    (∃ l : List UInt8, l.length ≤ 4200 ∧ EncTo k f t i b (sealS ⟨l.toArray⟩) 0 ∧ DecTo (sealS ⟨l.toArray⟩) k f t i b 0) ∨ ∃ c, c ≠ 0 ∧ EncTo k f t i b ⟨#[]⟩ c := by
  by_cases hc : chk k f t i b.size = 0
  · obtain ⟨hm, hn⟩ := chk_zero hc
    have hl := frB_len k f t i b.data.toList ⟨hm.2.2.2.2.2.2.1, by have := hm.2.2.2.2.2.2.2; omega⟩ (by rw [← size_list]; exact hn)
    refine .inl ⟨frB k f t i b.data.toList, hl, fun w => encode_ok k f t i b w hm hn, fun w => ?_⟩
    have hd := dec_enc k f t i b.data.toList hm (by rw [← size_list]; exact hn)
    rw [str_eta] at hd
    refine (decode_any _ w ?_ ?_).mono ?_
    · rw [sealS_size]
      omega
    · rw [sealS_size, str_size]
      omega
    · rintro e w' ⟨rfl, h⟩
      rw [hd]
      exact ⟨rfl, h⟩
  · exact .inr ⟨_, hc, fun w => encode_bad k f t i b w hb hc⟩
/-- What Decode gives: a message that is written as the string, or an error. -/
theorem dec_cases (s : ByteArray) (hs : s.size ≤ 10000) :
    ∃ k f t i b c, DecTo s k f t i b c ∧ (c ≠ 0 ∨ c = 0 ∧ EncTo k f t i b s 0) := by
  rcases Nat.lt_or_ge s.size 4 with h4 | h4
  · exact ⟨0, 0, 0, 0, ⟨#[]⟩, 2, fun w => decode_short s w h4, .inl (by decide)⟩
  · have hd : ∀ w : World, Calls Try.prog 49 #[.string s] w fun e w' => e = .returned (decV s.data.toList) ∧ Below w.heap.size w w' := fun w => decode_any s w h4 (by omega)
    rcases ho : openL s.data.toList with _ | t
    · refine ⟨0, 0, 0, 0, ⟨#[]⟩, 4, fun w => ?_, .inl (by decide)⟩
      have hv : decV s.data.toList = .tuple #[.agg #[.int .i64 0, .int .i64 0, .int .i64 0, .int .i64 0, .string ⟨#[]⟩], .int .i64 4] := by unfold decV; rw [ho]; rfl
      rw [← hv]
      exact hd w
    · have hv : decV s.data.toList = decR t := by unfold decV; rw [ho]
      by_cases hk : dOk t
      · refine ⟨dK t, dF t, dT t, dI t, ⟨(dB t).toArray⟩, 0, fun w => ?_, .inr ⟨rfl, fun w => ?_⟩⟩
        · have := hd w
          rw [hv, decR_ok hk] at this
          exact this
        · obtain ⟨he, hm, hb⟩ := enc_dec t hk
          have h1 := encode_ok (dK t) (dF t) (dT t) (dI t) ⟨(dB t).toArray⟩ w hm hb
          have h2 : sealS ⟨(frB (dK t) (dF t) (dT t) (dI t) (dB t)).toArray⟩ = s := by
            rw [he, ← str_eta (sealS _), sealS_list, str_list, ← openL_inv ho, str_eta]
          rw [show (⟨(dB t).toArray⟩ : ByteArray).data.toList = dB t from rfl, h2] at h1
          exact h1
      · refine ⟨0, 0, 0, 0, ⟨#[]⟩, 3, fun w => ?_, .inl (by decide)⟩
        have := hd w
        rw [hv, decR_no hk] at this
        exact this
theorem walk_framesBack (k f t i : Int) (b s : ByteArray) (w : World) (_hk : (Lit.int .i64 k).wf = true) (_hf : (Lit.int .i64 f).wf = true) (_ht : (Lit.int .i64 t).wf = true) (_hi : (Lit.int .i64 i).wf = true) (hb : b.size ≤ maxLen) (_hs : s.size ≤ 140737488351232) :
    Calls Try.prog 9 #[.agg #[.int .i64 k, .int .i64 f, .int .i64 t, .int .i64 i, .string b], .string s] w fun e w' => e = .returned (.bool true) ∧ Below w.heap.size w w' := by
  rcases Nat.lt_or_ge 10000 s.size with h | h
  · exact back_far awake12 k f t i b s w h
  · obtain ⟨k', f', t', i', b', c', hD', h'⟩ := dec_cases s h
    rcases enc_cases k f t i b hb with ⟨l, _, hE, hD⟩ | ⟨c, hc, hE⟩
    · rcases h' with hc' | ⟨rfl, hE'⟩
      · exact back_01 awake12 k f t i b s _ 0 k' f' t' i' b' c' hE hD hD' hc' w h
      · exact back_00 awake12 k f t i b s _ 0 k' f' t' i' b' 0 hE hD hD' hE' w h
    · rcases h' with hc' | ⟨rfl, hE'⟩
      · exact back_11 awake12 k f t i b s _ c k' f' t' i' b' c' hE hc hD' hc' w h
      · exact back_10 awake12 k f t i b s _ c k' f' t' i' b' 0 hE hc hD' hE' w h
end Go.Proofs.Ytljmaicobafgkaa
