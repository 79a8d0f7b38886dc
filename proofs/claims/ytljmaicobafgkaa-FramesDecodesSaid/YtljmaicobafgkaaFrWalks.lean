/- Layer 12: the walks of the laws, as their rows ask for them. -/
import Derived.Test.YtljmaicobafgkaaFrAwake
namespace Go.Proofs.Ytljmaicobafgkaa
open Go.RowKit
theorem walk_framesDecodes (s : ByteArray) (w : World) (_hs : s.size ≤ 140737488351232) :
    Calls Try.prog 8 #[.string s] w fun e w' => e = .returned (.bool true) ∧ Below w.heap.size w w' := decodes_walk awake12 s w
end Go.Proofs.Ytljmaicobafgkaa
