/- The walks of package frames. -/
import Derived.Test.YtljmaicobafgkaaReader
import Derived.Test.YtljmaicobafgkaaSeal
namespace Go.Proofs.Ytljmaicobafgkaa
open Go.RowKit

def msgV (k f t i : Int) (b : ByteArray) : Value := .agg #[.int .i64 k, .int .i64 f, .int .i64 t, .int .i64 i, .string b]
def msgOk (k f t i : Int) : Prop := 1 ≤ k ∧ k ≤ 99 ∧ 0 ≤ f ∧ f ≤ 63 ∧ 0 ≤ t ∧ t ≤ 63 ∧ 0 ≤ i ∧ i < 2147483648
instance (k f t i : Int) : Decidable (msgOk k f t i) := by unfold msgOk; infer_instance
def chk (k f t i : Int) (n : Nat) : Int := if msgOk k f t i then (if 4096 < n then 2 else 0) else 1

set_option maxRecDepth 100000 in
theorem check_any (k f t i : Int) (b : ByteArray) (w : World) (hb : b.size ≤ 9223372036854775807) :
    Calls Try.prog 46 #[.agg #[.int .i64 k, .int .i64 f, .int .i64 t, .int .i64 i, .string b]] w fun e w' => e = .returned (.int .i64 (chk k f t i b.size)) ∧ Below w.heap.size w w' := by
  by_cases h0 : k < 1
  · have hv : chk k f t i b.size = 1 := if_neg (by unfold msgOk; omega)
    rw [hv]
    clear hv
    go_enter Try.func46, Try.ntmps46
    go_wp2
    go_ret
    exact ⟨rfl, (Below.refl _ _).alloc (Nat.le_refl _) _⟩
  by_cases h1 : 99 < k
  · have hv : chk k f t i b.size = 1 := if_neg (by unfold msgOk; omega)
    rw [hv]
    clear hv
    go_enter Try.func46, Try.ntmps46
    go_wp2
    go_ret
    exact ⟨rfl, (Below.refl _ _).alloc (Nat.le_refl _) _⟩
  by_cases h2 : f < 0
  · have hv : chk k f t i b.size = 1 := if_neg (by unfold msgOk; omega)
    rw [hv]
    clear hv
    go_enter Try.func46, Try.ntmps46
    go_wp2
    go_ret
    exact ⟨rfl, (Below.refl _ _).alloc (Nat.le_refl _) _⟩
  by_cases h3 : 63 < f
  · have hv : chk k f t i b.size = 1 := if_neg (by unfold msgOk; omega)
    rw [hv]
    clear hv
    go_enter Try.func46, Try.ntmps46
    go_wp2
    go_ret
    exact ⟨rfl, (Below.refl _ _).alloc (Nat.le_refl _) _⟩
  by_cases h4 : t < 0
  · have hv : chk k f t i b.size = 1 := if_neg (by unfold msgOk; omega)
    rw [hv]
    clear hv
    go_enter Try.func46, Try.ntmps46
    go_wp2
    go_ret
    exact ⟨rfl, (Below.refl _ _).alloc (Nat.le_refl _) _⟩
  by_cases h5 : 63 < t
  · have hv : chk k f t i b.size = 1 := if_neg (by unfold msgOk; omega)
    rw [hv]
    clear hv
    go_enter Try.func46, Try.ntmps46
    go_wp2
    go_ret
    exact ⟨rfl, (Below.refl _ _).alloc (Nat.le_refl _) _⟩
  by_cases h6 : i < 0
  · have hv : chk k f t i b.size = 1 := if_neg (by unfold msgOk; omega)
    rw [hv]
    clear hv
    go_enter Try.func46, Try.ntmps46
    go_wp2
    go_ret
    exact ⟨rfl, (Below.refl _ _).alloc (Nat.le_refl _) _⟩
  by_cases h7 : 2147483648 ≤ i
  · have hv : chk k f t i b.size = 1 := if_neg (by unfold msgOk; omega)
    rw [hv]
    clear hv
    go_enter Try.func46, Try.ntmps46
    go_wp2
    go_ret
    exact ⟨rfl, (Below.refl _ _).alloc (Nat.le_refl _) _⟩
  by_cases h8 : 4096 < b.size
  · have hv : chk k f t i b.size = 2 := by unfold chk; rw [if_pos (by unfold msgOk; omega), if_pos h8]
    rw [hv]
    clear hv
    go_enter Try.func46, Try.ntmps46
    go_wp2
    go_ret
    exact ⟨rfl, (Below.refl _ _).alloc (Nat.le_refl _) _⟩
  · have hv : chk k f t i b.size = 0 := by unfold chk; rw [if_pos (by unfold msgOk; omega), if_neg h8]
    rw [hv]
    clear hv
    go_enter Try.func46, Try.ntmps46
    go_wp2
    go_ret
    exact ⟨rfl, (Below.refl _ _).alloc (Nat.le_refl _) _⟩

def fInt (at_ : Addr) (a b : FuncId) (wv rv : Value) : Value := .iface 255 (.agg #[.pointer (some at_), .func (.func a) #[wv] #[], .func (.func b) #[rv] #[]])
def fStr (at_ : Addr) (a b : FuncId) (wv rv : Value) : Value := .iface 259 (.agg #[.pointer (some at_), .func (.func a) #[wv] #[], .func (.func b) #[rv] #[]])
set_option maxRecDepth 100000 in
theorem parts_any (g : Nat) (wv rv : Value) (w : World) :
    Calls Try.prog 116 #[.pointer (some ⟨g, 0, none⟩), wv, rv] w fun e w' => ∃ q, e = .returned (.slice (some ⟨q, 0, none⟩) 5 5) ∧ q = w.heap.size ∧
      w'.heap[q]? = some (.cells #[fInt ⟨g, 0, none⟩ 129 133 wv rv, fInt ⟨g, 1, none⟩ 129 133 wv rv, fInt ⟨g, 2, none⟩ 129 133 wv rv, fInt ⟨g, 3, none⟩ 108 112 wv rv, fStr ⟨g, 4, none⟩ 168 169 wv rv] 192 (0, 0)) ∧ Below w.heap.size w w' := by
  go_enter Try.func116, Try.ntmps116
  go_wp2
  refine wp_stl 45 (by kernel_rfl) (by kernel_rfl) ?_
  simp only [List.take_succ_cons, List.take_zero, List.drop_succ_cons, List.drop_zero]
  repeat still_step
  refine wpStill_nil ?_
  go_wp2
  go_ret
  exact ⟨_, rfl, rfl, obj_new _ _, ((Below.refl w.heap.size w).alloc (Nat.le_refl _) _).drew⟩
end Go.Proofs.Ytljmaicobafgkaa
