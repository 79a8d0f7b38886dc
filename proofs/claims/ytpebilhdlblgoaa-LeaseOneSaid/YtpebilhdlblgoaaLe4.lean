/- Chapter 27, lease: all leases, collected (ahead of the sort). -/
import Derived.Test.YtpebilhdlblgoaaLe3
import Derived.Test.YtpebilhdlblgoaaGr
import Derived.Test.YtpebilhdlblgoaaApp
namespace Go.Proofs.Ytpebilhdlblgoaa
open Go.RowKit

theorem inf30 : (Try.prog.info? 30).map (fun i => (i.zero, i.size, i.bytes)) = some (some (.agg #[.int .i64 0, .int .i64 0, .int .i64 0, .int .i64 0]), 4, 32) := by kernel_rfl
/-- Rows of leases. -/
def kR : EK Try.prog Lse where
  cs x := [.int .i64 x.ino, .int .i64 x.cli, .int .i64 x.til, .int .i64 x.tok]
  sz := 4
  e := 30
  t := 26
  by_ := 32
  len _ := rfl
  one a u h := by
    simp only [List.mem_cons, List.not_mem_nil, or_false] at h
    rcases h with rfl | rfl | rfl | rfl <;> rfl
  pos := by decide
  und := Try.underlying26
  inf := ek_inf inf30 rfl
  small := by decide
def lenL (v : Value) : Nat := match v with
  | .slice _ n _ => n
  | _ => 0
/-- What leases must be. -/
def LOk (S : Les) : Prop := ∀ k x, S.f k = some x → x.ino = k ∧ 1 ≤ k ∧ k < 256
theorem lrg_count {w : World} {c r N : Nat} {S : Les} (hd : LOk S) {E : List (Int × Lse)} (h : kLe.rg w c r S.f N E) : E.length ≤ 256 := by
  obtain ⟨h1, h2, h3⟩ := MK.rg_nodup h
  have := nodup_sub_len (L := (List.range 256).map fun i : Nat => (i : Int)) h1 (fun k hk => by
    obtain ⟨p, hp, rfl⟩ := List.mem_map.1 hk
    obtain ⟨-, a, b⟩ := hd _ _ (h3 p.1 p.2 hp)
    exact List.mem_map.2 ⟨p.1.toNat, List.mem_range.2 (by omega), by omega⟩)
  simpa using this
def LaS (w : World) (c r N : Nat) (f : Int → Option Lse) (wr : World) (ov : Value) : Prop :=
  ∃ E, kLe.rg wr c r f N E ∧ kR.row wr w.heap.size ov (E.map (·.2)) ∧ Below w.heap.size w wr
/-- What the sort does to a row of leases. -/
def SortsL : Prop := ∀ (w : World) (B : Nat) (v : Value) (l : List Lse), kR.row w B v l → l.length ≤ 256 → (∀ x ∈ l, 0 ≤ x.ino ∧ x.ino < 256) →
  Calls Try.prog 33 #[v, .func (.func 34) #[] #[]] w fun e w' => e = .returned (.tuple #[]) ∧ ∃ l', l'.Perm l ∧ l'.Pairwise (fun a b => a.ino ≤ b.ino) ∧ kR.row w' B v l' ∧ Fr (fun j => v.ownBlock = some j) w w'
set_option maxHeartbeats 4000000 in
set_option maxRecDepth 100000 in
theorem lall_any (HSORT : SortsL) {w : World} {g c : Nat} {S : Les} (h : LV w g c S) (hd : LOk S) :
    Calls Try.prog 29 #[.pointer (some ⟨g, 0, none⟩)] w fun e w' => ∃ v' l, e = .returned v' ∧ kR.row w' w.heap.size v' l ∧ (∀ x, x ∈ l ↔ S.f x.ino = some x) ∧ l.Pairwise (fun a b => a.ino < b.ino) ∧ Below w.heap.size w w' := by
  have z0 := obj_cell h.1 0
  simp only [List.getElem?_toArray, List.getElem?_cons_zero] at z0
  obtain ⟨N, w1, hrun, hrg, hb1, hsz1⟩ := MK.run_rng h.2
  have HRUN : Hid ((Instr.range 60 (.map (some c))).run Try.prog w = .ok (.pointer (some ⟨w.heap.size, 0, none⟩)) w1) := hide hrun
  have HS := hide (show LaS w c w.heap.size N S.f w1 (.slice none 0 0) from ⟨[], hrg, EK.row_nil _ _, hb1⟩)
  have HD := hide hd
  have HC := hide h.lt.2
  clear h hrun hrg hb1 hsz1 hd
  go_enter Try.func29, Try.ntmps29
  go_wp2_with fail
  rw [HRUN.out]
  go_wp2_with fail
  go_loopw [3] (fun ov wr => LaS w c w.heap.size N S.f wr ov) (fun ov _ => N - lenL ov)
  case atStart => exact HS.out
  case round =>
    obtain ⟨E, hrg, hrow, hb⟩ := hrel
    have hcnt := lrg_count HD.out hrg
    rcases MK.run_nxt hrg 0 with ⟨hall, hN, hnx⟩ | ⟨k, x, w2, hlt, hfk, hnx, hrg2, hf2, hs2, hen⟩
    · have HNX := hide hnx
      have hnd := (MK.rg_nodup hrg).1
      have HSR := hide (HSORT wr _ _ _ hrow (by rw [List.length_map]; exact hcnt) (fun x hx => by
        obtain ⟨p, hp, rfl⟩ := List.mem_map.1 hx
        have := HD.out p.1 p.2 ((hall p.1 p.2).2 hp)
        omega))
      have HALL := hide hall
      have HND := hide hnd
      have HROW := hide hrow
      have HB := hide hb
      clear hall hN hnx hrg hrow hb hnd
      go_wp2_with fail
      rw [HNX.out]
      go_wp2_with fail
      refine HSR.out.mono ?_
      rintro e w3 ⟨rfl, l', hperm, hsorted, hrow3, hf3⟩
      have HR3 := hide hrow3
      have HB3 := hide (HB.out.trans (hf3.below _ HB.out.size (fun j hj e => by
        have := (EK.row_typed HROW.out e).1
        omega)))
      have HP := hide hperm
      have HSO := hide hsorted
      clear hrow3 hf3 hperm hsorted
      go_wp2
      go_ret
      have hmem : ∀ x, x ∈ l' ↔ S.f x.ino = some x := fun x => by
        rw [HP.out.mem_iff, List.mem_map]
        constructor
        · rintro ⟨p, hp, rfl⟩
          have h1 := (HALL.out p.1 p.2).2 hp
          rw [(HD.out _ _ h1).1]
          exact h1
        · intro h1
          exact ⟨(x.ino, x), (HALL.out _ _).1 h1, rfl⟩
      refine ⟨_, l', rfl, HR3.out, hmem, ?_, HB3.out⟩
      have hnd2 : (l'.map (·.ino)).Nodup := by
        have e1 : ((E.map (·.2)).map (·.ino)) = E.map (·.1) := by
          rw [List.map_map]
          refine List.map_congr_left (fun p hp => ?_)
          exact (HD.out _ _ ((HALL.out p.1 p.2).2 hp)).1
        have := HP.out.map (·.ino)
        rw [this.nodup_iff, e1]
        exact HND.out
      rw [List.nodup_iff_pairwise_ne, List.pairwise_map] at hnd2
      exact (HSO.out.and hnd2).imp (fun ⟨a, b⟩ => by omega)
    · have hne : ∀ q, u3.ownBlock = some q → q ≠ w.heap.size := fun q hq e => by
        obtain ⟨-, -, cs, h5⟩ := EK.row_typed hrow hq
        obtain ⟨L, ck, si, se, c0, -, -, h6, -⟩ := hrg
        rw [e, h6] at h5
        cases h5
      have hrow2 := EK.row_fr hrow hf2 (fun q hq e => hne q hq e)
      have hb2 : Below w.heap.size w w2 := hb.trans (hf2.below _ hb.size (fun j hj e => by omega))
      have hal := ((Below.refl w2.heap.size w2).alloc (Nat.le_refl _) (.cells #[.int .i64 x.ino, .int .i64 x.cli, .int .i64 x.til, .int .i64 x.tok] 30)).alloc (by simp) (.cells #[.int .i64 x.ino, .int .i64 x.cli, .int .i64 x.til, .int .i64 x.tok] 30)
      have hrg3 := MK.rg_below hrg2 hal
      have hrow3 := EK.row_below hrow2 hal
      have hb3 := hb2.trans (hal.mono hb2.size)
      have hs3 : (w2.alloc (.cells #[.int .i64 x.ino, .int .i64 x.cli, .int .i64 x.til, .int .i64 x.tok] 30)).heap.size = w2.heap.size + 1 := by simp
      obtain ⟨v4, w4, happ, hrow4, hf4, hbl4⟩ := EK.app hrow3 (EK.rd_one (K := kR) x (obj_new (w2.alloc (.cells #[.int .i64 x.ino, .int .i64 x.cli, .int .i64 x.til, .int .i64 x.tok] 30)) _)) (by rw [List.length_map]; simp; omega) hb3.size 26
      rw [hs3] at happ
      have hrg4 := MK.rg_fr hrg3 hf4 (fun e => by
        obtain ⟨es, q, h6⟩ := MK.mp_obj (MK.rg_mp hrg3)
        obtain ⟨-, -, cs, h5⟩ := EK.row_typed hrow3 e
        rw [h6] at h5
        cases h5) (fun e => hne _ e rfl)
      have hb4 : Below w.heap.size w w4 := hb3.trans (hf4.below _ hb3.size (fun j hj e => by
        have := (EK.row_typed hrow3 e).1
        omega))
      have HAPP : Hid ((Builtin.append_ #[26, 26] 26 #[u3, .slice (some ⟨w2.heap.size + 1, 0, none⟩) 1 1]).run Try.prog ((w2.alloc (.cells #[.int .i64 x.ino, .int .i64 x.cli, .int .i64 x.til, .int .i64 x.tok] 30)).alloc (.cells #[.int .i64 x.ino, .int .i64 x.cli, .int .i64 x.til, .int .i64 x.tok] 30)) = .ok v4 w4) := hide happ
      have HRES := hide (show LaS w c w.heap.size N S.f w4 v4 from ⟨E ++ [(k, x)], hrg4, by rw [List.map_append]; exact hrow4, hb4⟩)
      have HNX : Hid ((Instr.next (.pointer (some ⟨w.heap.size, 0, none⟩)) false 0).run Try.prog wr = .ok (.tuple #[.bool true, .int .i64 k, .agg #[.int .i64 x.ino, .int .i64 x.cli, .int .i64 x.til, .int .i64 x.tok]]) w2) := hide hnx
      have hen' : (Instr.entry (.pointer (some ⟨w.heap.size, 0, none⟩))).run Try.prog w2 = .ok (.tuple #[.int .i64 k, .agg #[.int .i64 x.ino, .int .i64 x.cli, .int .i64 x.til, .int .i64 x.tok]]) w2 := hen
      have hlv : lenL u3 = E.length ∧ lenL v4 = E.length + 1 := by
        obtain ⟨A, cc, e1⟩ := EK.row_slice hrow
        obtain ⟨A4, c4, e4⟩ := EK.row_slice hrow4
        rw [e1, e4]
        exact ⟨by simp [lenL], by simp [lenL]⟩
      clear hfk hnx hrg2 hf2 hs2 hrg3 hrow2 hrow3 hrow4 hb2 hb3 hf4 hbl4 hrg4 hb4 happ hen hrow hrg hb hal hs3
      go_wp2_with fail
      rw [HNX.out]
      go_wp2_with (refine wpList_append_run rfl (.tmp 17) (.tmp 19) 26 26 rfl rfl rfl HAPP.out ?_)
      exact ⟨HRES.out, by omega⟩
end Go.Proofs.Ytpebilhdlblgoaa
