/- Chapter 10, super: Write. -/
import Derived.Test.YtljmaicobafgkaaSp8
namespace Go.Proofs.Ytljmaicobafgkaa
open Go.RowKit

set_option maxRecDepth 100000 in
theorem swrite_size (g : Nat) (s : ByteArray) (w : World) (h : 244 < s.size) : Calls Try.prog 96 #[.pointer (some ⟨g, 0, none⟩), .string s] w fun e w' => e = .returned (.int .i64 2) ∧ w = w' := by
  have h' : (244 : Int) < (s.size : Int) := by omega
  go_enter Try.func96, Try.ntmps96
  go_wp2
  go_ret
  exact ⟨rfl, rfl⟩
def plcN (g : Nat) : Nat := g % 2 * 4
/-- The device behind another state, not flushed yet. -/
def Dev.state (D : Dev) (s : ByteArray) : Dev := D.puts (plcN (genO (newest D) + 1)) (packS s ((genO (newest D) + 1 : Nat) : Int)) 4
def Dev.next (D : Dev) (s : ByteArray) : Dev := (D.state s).flush
set_option maxHeartbeats 4000000 in
set_option maxRecDepth 100000 in
theorem swrite_any {w : World} {g c r cap : Nat} {D : Dev} (h : DV w g c (.slice (some ⟨r, 0, none⟩) 8 cap) D) (hd : Dok D) (hlost : D.lost = false) (hDL : D.now.length = 8) (s : ByteArray) (hs : s.size ≤ 244) (hg : genO (newest D) + 1 < 2147483648) :
    Calls Try.prog 96 #[.pointer (some ⟨g, 0, none⟩), .string s] w fun e w' => e = .returned (.int .i64 0) ∧ DV w' g c (.slice (some ⟨r, 0, none⟩) 8 cap) (D.next s) ∧ Fr (fun j => j = c ∨ j = r) w w' := by
  have HR := hide (sread_any h hd hlost hDL)
  have HV := hide h
  have HD := hide hd
  have HL := hide hDL
  have HT := hide hlost
  have hsi : ¬ (244 : Int) < (s.size : Int) := by omega
  obtain ⟨m, hm⟩ : ∃ m, m = genO (newest D) + 1 := ⟨_, rfl⟩
  have hmi : (genO (newest D) : Int) + 1 = (m : Int) := by omega
  have hm32 : m < 2147483648 := by omega
  have hm1 : 1 ≤ m := by omega
  have HN := hide (show D.next s = (D.puts (plcN m) (packS s (m : Int)) 4).flush by unfold Dev.next Dev.state; rw [← hm])
  obtain ⟨G, hG⟩ : ∃ G, G = genO (newest D) := ⟨_, rfl⟩
  obtain ⟨bo, hbo⟩ : ∃ bo, bo = bodyO (newest D) := ⟨_, rfl⟩
  rw [← hG, ← hbo] at HR
  rw [← hG] at hmi
  have hGb : G < 2147483648 := by omega
  have hee : errO (newest D) = 0 ∨ errO (newest D) = 7 := by
    rcases newest D with _ | p
    · exact .inr rfl
    · exact .inl rfl
  generalize errO (newest D) = er at HR hee
  clear h hd hDL hlost hm hG hbo hg
  rcases hee with rfl | rfl
  all_goals
    go_enter Try.func96, Try.ntmps96
    go_wp2_with fail
    refine HR.out.mono ?_
    rintro e w1 ⟨rfl, hb1⟩
    go_wp2_with fail
    refine (pack_ok s (m : Int) _ (by omega) (by omega) hs).mono ?_
    rintro e w2 ⟨rfl, hb2⟩
    have HB2 := hide (hb1.trans (hb2.mono hb1.size))
    have HP := hide (pack_len s (m : Int) hs)
    clear hb1 hb2
    generalize packS s (m : Int) = p at *
    go_wp2_with fail
    refine (place153 m _ (by omega)).mono ?_
    rintro e w3 ⟨rfl, rfl⟩
    go_wp2_with fail
    refine (dwrite_ok (HV.out.below HB2.out) HT.out (plcN m) 4 p HP.out (by omega) (by unfold plcN; omega) (by omega) HL.out).mono ?_
    rintro e w4 ⟨rfl, hv4, hf4⟩
    have HV4 := hide hv4
    have HF4 := hide ((Fr.of_below (F := fun j => j = c ∨ j = r) HB2.out).trans hf4 (fun _ _ e => e))
    clear hv4 hf4
    go_wp2_with fail
    refine (flush_any HV4.out).mono ?_
    rintro e w5 ⟨rfl, hv5, hf5, -⟩
    have HV5 := hide hv5
    have HF5 := hide (HF4.out.trans hf5 (fun _ _ e => .inl e))
    clear hv5 hf5
    go_wp2
    go_ret
    exact ⟨rfl, by rw [HN.out]; exact HV5.out, HF5.out⟩
end Go.Proofs.Ytljmaicobafgkaa
