/- Bytes in memory: a row of bytes as a list; string(b) of it. -/
import Derived.Test.YthcnoamgkkbkcaaBase
import Derived.Laws.IdiomStrings
namespace Go.Proofs.Ythcnoamgkkbkcaa
open Go.RowKit

def byteVals (l : List UInt8) : List Value := l.map fun b => .int .u8 (b.toNat : Int)
theorem byteVals_length (l : List UInt8) : (byteVals l).length = l.length := by simp [byteVals]
theorem byteVals_append (l m : List UInt8) : byteVals (l ++ m) = byteVals l ++ byteVals m := by simp [byteVals]
theorem byteVals_get {l : List UInt8} {j : Nat} (hj : j < l.length) : (byteVals l)[j]? = some (.int .u8 (l[j].toNat : Int)) := by
  simp [byteVals, hj]

/-- The least byte of a number. -/
def ub (n : Int) : UInt8 := UInt8.ofNat (n % 256).toNat
theorem ub_val (n : Int) : ((ub n).toNat : Int) = n % 256 := by
  have h0 := Int.emod_nonneg n (b := 256) (by decide)
  have h1 := Int.emod_lt_of_pos n (b := 256) (by decide)
  simp only [ub, UInt8.toNat_ofNat']
  omega
theorem ub_small {n : Int} (h0 : 0 ≤ n) (h1 : n < 256) : ((ub n).toNat : Int) = n := by rw [ub_val]; omega

/-- string(b), b a slice whose cells are the bytes l. -/
theorem conv_str {w : World} {A : Option Addr} {n cap : Nat} (l : List UInt8) (hn : n = l.length) (hc : ∀ ad, A = some ad → ∀ j u, (byteVals l)[j]? = some u → w.cell? (ad.add j) = some u) (h0 : A = none → l = []) :
    (convert 119 9 (.slice A n cap)).run Try.prog w = .ok (.string ⟨l.toArray⟩) w := by
  subst hn
  rcases A with _ | a
  · have := h0 rfl
    subst this
    rw [Go.run_convert_bytes_string w 119 9 5 none _ cap Try.underlying119 Try.underlying5 Try.underlying9]
    simp [Conv.bytesToString, Sem.run_pure]

    rfl
  · exact run_convert_bytes_back w 119 9 5 a cap l Try.underlying119 Try.underlying5 Try.underlying9 (fun j hj => hc a rfl j _ (byteVals_get hj))

theorem str_size (l : List UInt8) : (⟨l.toArray⟩ : ByteArray).size = l.length := rfl
theorem str_list (l : List UInt8) : (⟨l.toArray⟩ : ByteArray).data.toList = l := rfl
theorem str_eta (s : ByteArray) : (⟨s.data.toList.toArray⟩ : ByteArray) = s := by cases s; rfl
theorem size_list (s : ByteArray) : s.size = s.data.toList.length := rfl

/-- A number in four bytes. -/
def le4 (n : Int) : List UInt8 := [ub n, ub (n / 256), ub (n / 65536), ub (n / 16777216)]

end Go.Proofs.Ythcnoamgkkbkcaa
