/- Chapter 14, calls: New, State, Forget; whether a number is a moment. -/
import Derived.Test.YthcnoamgkkbkcaaCaM
namespace Go.Proofs.Ythcnoamgkkbkcaa
open Go.RowKit

theorem moment_ok {now : Int} (h : ¬ badN now) (w : World) : Calls Try.prog 46 #[.int .i64 now] w fun e w' => e = .returned (.bool true) ∧ w = w' := by
  have h1 : 0 ≤ now := by unfold badN at h; omega
  have h2 : now ≤ 1099511626776 := by unfold badN at h; omega
  clear h
  go_enter Try.func46, Try.ntmps46
  go_wp2
  go_ret
  exact ⟨rfl, rfl⟩
theorem moment_no {now : Int} (h : badN now) (w : World) : Calls Try.prog 46 #[.int .i64 now] w fun e w' => e = .returned (.bool false) ∧ w = w' := by
  by_cases h1 : 0 ≤ now
  · have h2 : ¬ now ≤ 1099511626776 := by unfold badN at h; omega
    clear h
    go_enter Try.func46, Try.ntmps46
    go_wp2
    go_ret
    exact ⟨rfl, rfl⟩
  · clear h
    go_enter Try.func46, Try.ntmps46
    go_wp2
    go_ret
    exact ⟨rfl, rfl⟩
theorem run_mx (ts : Array TypeId) (t : TypeId) (x y z : Int) (h : z = max x y) (W : World) : (Builtin.max_ ts t #[.int .i64 x, .int .i64 y]).run Try.prog W = .ok (.int .i64 z) W := by
  rw [run_max_int2, h]
  congr 2
  split <;> omega
theorem run_mn (ts : Array TypeId) (t : TypeId) (x y z : Int) (h : z = min x y) (W : World) : (Builtin.min_ ts t #[.int .i64 x, .int .i64 y]).run Try.prog W = .ok (.int .i64 z) W := by
  rw [run_min_int2, h]
  congr 2
  split <;> omega
def newC (me first : Int) : CS := ⟨min (max me 0) 63, min (max first 0) 1073741824, []⟩
theorem newC_ok (me first : Int) : COk (newC me first) [] :=
  ⟨.nil, (fun k h => by cases h), (fun k h => by cases h), (fun k h => by cases h), (fun k h => by cases h), by unfold newC; simp only; omega, .nil, tok_nil⟩
set_option maxHeartbeats 4000000 in
set_option maxRecDepth 100000 in
theorem cnew_any (me first : Int) (w : World) : Calls Try.prog 14 #[.int .i64 me, .int .i64 first] w fun e w' => ∃ g t p c cm v f, e = .returned (.pointer (some ⟨g, 0, none⟩)) ∧ CV w' w.heap.size g t p c cm v (newC me first) [] f ∧ Below w.heap.size w w' := by
  obtain ⟨M1, hM1⟩ : ∃ M, M = max me 0 := ⟨_, rfl⟩
  obtain ⟨M2, hM2⟩ : ∃ M, M = min M1 63 := ⟨_, rfl⟩
  obtain ⟨F1, hF1⟩ : ∃ M, M = max first 0 := ⟨_, rfl⟩
  obtain ⟨F2, hF2⟩ : ∃ M, M = min F1 1073741824 := ⟨_, rfl⟩
  have g1 := fun ts t => run_mx ts t me 0 M1 hM1
  have g2 := fun ts t => run_mn ts t M1 63 M2 hM2
  have g3 := fun ts t => run_mx ts t first 0 F1 hF1
  have g4 := fun ts t => run_mn ts t F1 1073741824 F2 hF2
  have HM := hide (show newC me first = ⟨M2, F2, []⟩ from by unfold newC; rw [hM2, hM1, hF2, hF1])
  clear hM1 hM2 hF1 hF2
  have hmm : ∀ W : World, (Instr.makeMap 89 none).run Try.prog W = .ok (.map (some W.heap.size)) (W.alloc (.map #[] 0)) := fun W => run_makeMap (P := Try.prog) 89 W
  go_enter Try.func14, Try.ntmps14
  go_wp2_with fail
  refine (tnew_any _).mono ?_
  rintro e w1 ⟨t, p, c, rfl, h1, hb1⟩
  have hs1 : (w.alloc (.map #[] 0)).heap.size = w.heap.size + 1 := by simp
  rw [hs1] at h1 hb1
  have hm1 : w1.heap[w.heap.size]? = some (.map #[] 0) := by
    have := hb1.block w.heap.size (by omega)
    rw [this]
    exact obj_new w _
  have hne : w.heap.size ≠ c := by
    have := h1.2.2
    omega
  have hal := (Below.refl w1.heap.size w1).alloc (Nat.le_refl _) (.cells #[.int .i64 M2, .int .i64 F2, .map (some w.heap.size), .pointer (some ⟨t, 0, none⟩)] 93)
  have hlt1 := obj_lt hm1
  have HCV := hide (show CV (w1.alloc (.cells #[.int .i64 M2, .int .i64 F2, .map (some w.heap.size), .pointer (some ⟨t, 0, none⟩)] 93)) w.heap.size w1.heap.size t p c w.heap.size (.slice none 0 0) (newC me first) [] (fun _ => none) from by
    rw [HM.out]
    obtain ⟨a1, a2, a3⟩ := h1.below hal
    exact ⟨obj_new w1 _, ⟨a1, by obtain ⟨l, ⟨fa, b1, b2⟩, b3⟩ := a2; exact ⟨l, ⟨fa, ⟨b1.1, EK.row_base b1.2.1 (by omega), b1.2.2⟩, b2⟩, b3⟩, by omega⟩, MK.mp_new (clock := 0) (obj_below hm1 hal), ⟨(fun id _ k hk => by cases hk), (fun id b e => by cases e), (fun i j b e => by cases e)⟩, hne, by omega, Nat.le_refl _⟩)
  have HB := hide (show Below w.heap.size w (w1.alloc (.cells #[.int .i64 M2, .int .i64 F2, .map (some w.heap.size), .pointer (some ⟨t, 0, none⟩)] 93)) from
    (((Below.refl w.heap.size w).alloc (Nat.le_refl _) (.map #[] 0)).trans (hb1.mono (by omega))).trans (hal.mono (by omega)))
  clear h1 hb1 hs1 hm1 hne hal hlt1
  go_wp2
  go_ret
  exact ⟨_, _, _, _, _, _, _, rfl, HCV.out, HB.out⟩
theorem cstate_nil (id : Int) (w : World) : Calls Try.prog 25 #[.pointer none, .int .i64 id] w fun e w' => e = .returned (.tuple #[.int .i64 0, .string ⟨#[]⟩]) ∧ w = w' := by
  go_enter Try.func25, Try.ntmps25
  go_wp2
  go_ret2
  exact ⟨rfl, rfl⟩
set_option maxHeartbeats 4000000 in
set_option maxRecDepth 100000 in
theorem cstate_any {w : World} {B g t p c cm : Nat} {v : Value} {S : CS} {x : List Tm} {f : Int → Option Nat} (h : CV w B g t p c cm v S x f) (hs : S.L.Pairwise fun a b => a.id < b.id) (id : Int) :
    Calls Try.prog 25 #[.pointer (some ⟨g, 0, none⟩), .int .i64 id] w fun e w' => e = .returned (.tuple #[.int .i64 (cState S id).1, .string (cState S id).2]) ∧ ∃ n, w' = w.drewN n := by
  have z2 := obj_cell h.o 2
  simp only [cC, List.getElem?_toArray, List.getElem?_cons_zero, List.getElem?_cons_succ] at z2
  have hlk := MK.run_look_ok h.mp id
  have hfd := h.find hs id
  unfold cState
  rcases e : fnd S.L id with _ | k
  · rw [e] at hfd
    simp only at hfd
    rw [hfd] at hlk
    have hlk' : (Instr.lookup 89 (.map (some cm)) (.int .i64 id) true).run Try.prog w = .ok (.tuple #[.pointer none, .bool false]) w := hlk
    clear hlk h hfd
    go_enter Try.func25, Try.ntmps25
    go_wp2
    go_ret2
    exact ⟨rfl, 0, rfl⟩
  · rw [e] at hfd
    simp only at hfd
    obtain ⟨b, hb, hbo⟩ := hfd
    rw [hb] at hlk
    have hlk' : (Instr.lookup 89 (.map (some cm)) (.int .i64 id) true).run Try.prog w = .ok (.tuple #[.pointer (some ⟨b, 0, none⟩), .bool true]) w := hlk
    have q4 := obj_cell hbo 4
    have q5 := obj_cell hbo 5
    simp only [ckC, List.getElem?_toArray, List.getElem?_cons_zero, List.getElem?_cons_succ] at q4 q5
    clear hlk h hb hbo
    go_enter Try.func25, Try.ntmps25
    go_wp2_with fail
    go_quiet (fail)
    go_wp2
    go_ret2
    exact ⟨rfl, _, rfl⟩
end Go.Proofs.Ythcnoamgkkbkcaa
