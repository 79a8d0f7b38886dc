/- Chapters 09 and 10, sector: a device in memory. -/
import Derived.Test.YtpebilhdlblgoaaSd1
import Derived.Test.YtpebilhdlblgoaaGr
namespace Go.Proofs.Ytpebilhdlblgoaa
open Go.RowKit

theorem inf9 : (Try.prog.info? 9).map (fun i => (i.zero, i.size, i.bytes)) = some (some (.string ⟨#[]⟩), 1, 16) := by kernel_rfl
/-- Rows of strings. -/
def kS : EK Try.prog ByteArray where
  cs s := [.string s]
  sz := 1
  e := 9
  t := 67
  by_ := 16
  len _ := rfl
  one a u h := by
    rw [List.mem_singleton] at h
    subst h
    rfl
  pos := by decide
  und := Try.underlying67
  inf := ek_inf inf9 rfl
  small := by decide
end Go.Proofs.Ytpebilhdlblgoaa
