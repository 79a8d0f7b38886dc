/- The walks of codec.number, text, and the closures that lay one thing. -/
import Derived.Test.YthcnoamgkkbkcaaApp
import Derived.Test.YthcnoamgkkbkcaaZig
namespace Go.Proofs.Ythcnoamgkkbkcaa
open Go.RowKit

set_option maxRecDepth 100000 in
theorem byte1_any (A : Option Addr) (l : List UInt8) (g : Nat) (n : Int) (w : World) (h : RdB w w.heap.size A l) (hl : l.length ≤ 1048576) (hc : w.cell? ⟨g, 0, none⟩ = some (.int .i64 n)) :
    Calls Try.prog 89 #[.slice A l.length l.length, .pointer (some ⟨g, 0, none⟩)] w fun e w' => ∃ v, e = .returned v ∧ OwB w' w.heap.size v (l ++ [ub n]) ∧ Below w.heap.size w w' := by
  obtain ⟨v', w', hrun, hown, hb⟩ := app_full h (ub n) (by omega) 119
  rw [ub_val] at hrun
  go_enter Try.func89, Try.ntmps89
  go_wp2_with (at_builtin; refine wpList_append_run rfl (.tmp 4) (.tmp 7) 119 119 rfl rfl rfl hrun ?_)
  go_ret
  exact ⟨v', rfl, hown, hb⟩

/-- What number's loop has come to. -/
def NumS (w0 : World) (A : Option Addr) (l0 : List UInt8) (z : Nat) (w : World) (v uv : Value) : Prop :=
  ∃ (l : List UInt8) (u : Nat), uv = .int .u64 u ∧ l ++ numN u = l0 ++ numN z ∧ u < 18446744073709551616 ∧ Below w0.heap.size w0 w ∧ l0.length ≤ l.length ∧
    ((v = .slice A l0.length l0.length ∧ l = l0) ∨ OwB w w0.heap.size v l)
theorem numS_app {w wr : World} {A : Option Addr} {l l1 : List UInt8} {v : Value} (HR : RdB w w.heap.size A l) (hbel : Below w.heap.size w wr) (hlen2 : l1.length ≤ 2097152)
    (hv : (v = .slice A l.length l.length ∧ l1 = l) ∨ OwB wr w.heap.size v l1) (b : UInt8) :
    ∃ v' w', (Builtin.append_ #[119, 119] 119 #[v, .slice (some ⟨wr.heap.size, 0, none⟩) 1 1]).run Try.prog (wr.alloc (.cells #[.int .u8 (b.toNat : Int)] 5)) = .ok v' w' ∧
          OwB w' w.heap.size v' (l1 ++ [b]) ∧ Below w.heap.size w w' := by
  rcases hv with ⟨rfl, rfl⟩ | hv
  · obtain ⟨v', w', hrun, hown, hb⟩ := app_full ((HR.below hbel).more hbel.size) b (by omega) 119
    exact ⟨v', w', hrun, ⟨hown.1, hown.2.imp id (fun ⟨g, cap, cur, h1, h2, h3⟩ => ⟨g, cap, cur, h1, Nat.le_trans hbel.size h2, h3⟩)⟩, hbel.trans (hb.mono hbel.size)⟩
  · obtain ⟨v', w', hrun, hown, hb⟩ := app_own hv b (by omega) hbel.size 119
    exact ⟨v', w', hrun, hown, hbel.trans hb⟩

set_option maxRecDepth 100000 in
theorem number_any (A : Option Addr) (l : List UInt8) (n : Int) (w : World) (h : RdB w w.heap.size A l) (hl : l.length ≤ 1048576) (h0 : -9223372036854775808 ≤ n) (h1 : n ≤ 9223372036854775807) :
    Calls Try.prog 91 #[.slice A l.length l.length, .int .i64 n] w fun e w' => ∃ v, e = .returned v ∧ OwB w' w.heap.size v (l ++ num n) ∧ Below w.heap.size w w' := by
  have HR := hide h
  clear h
  go_enter Try.func91, Try.ntmps91
  go_wp2
  rw [zig n h0 h1]
  go_loopw [0, 5] (fun v uv wr => NumS w A l (zz n) wr v uv) (fun _ uv _ => (intOf uv).toNat)
  case atStart => exact ⟨l, zz n, rfl, rfl, zz_lt n h0 h1, Below.refl _ _, Nat.le_refl _, .inl ⟨rfl, rfl⟩⟩
  case round =>
    obtain ⟨l1, u, rfl, hlist, hu, hbel, hlen, hv⟩ := hrel
    have hlen2 : l1.length ≤ 2097152 := by
      have h3 := congrArg List.length hlist
      have h2 := numN_ten (zz n) (zz_lt n h0 h1)
      simp only [List.length_append] at h3
      omega
    have HL := hide hlist
    clear hlist
    by_cases hsm : u < 128
    · obtain ⟨v', w', hrun, hown, hb⟩ := numS_app HR.out hbel hlen2 hv (UInt8.ofNat u)
      have hx : ((UInt8.ofNat u).toNat : Int) = (u : Int) := by simp only [UInt8.toNat_ofNat']; omega
      rw [hx] at hrun
      clear hv hx
      have hfin : l1 ++ [UInt8.ofNat u] = l ++ num n := by rw [← numN_small hsm]; exact HL.out
      rw [hfin] at hown
      clear hfin hbel
      go_wp2_with (at_builtin; refine wpList_append_run rfl (.tmp 23) (.tmp 26) 119 119 rfl rfl rfl hrun ?_)
      go_ret
      exact ⟨v', rfl, hown, hb⟩
    · obtain ⟨v', w', hrun, hown, hb⟩ := numS_app HR.out hbel hlen2 hv (UInt8.ofNat (u % 128 + 128))
      rw [← or128] at hrun
      have hnext : (l1 ++ [UInt8.ofNat (u % 128 + 128)]) ++ numN (u / 128) = l ++ numN (zz n) := by rw [List.append_assoc, List.singleton_append, ← numN_large hsm]; exact HL.out
      have HN := hide hnext
      clear hv hnext hbel
      go_wp2_with (at_builtin; refine wpList_append_run rfl (.tmp 17) (.tmp 21) 119 119 rfl rfl rfl hrun ?_)
      go_roundw
      case rel => exact ⟨_, u / 128, by go_num, HN.out, by omega, hb, by simp; omega, .inr hown⟩
      case measure => simp [intOf]; omega
end Go.Proofs.Ythcnoamgkkbkcaa
