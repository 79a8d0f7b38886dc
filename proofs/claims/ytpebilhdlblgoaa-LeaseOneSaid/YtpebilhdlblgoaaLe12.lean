/- Chapter 27, lease: the walks of LeaseNone and LeaseHolds. -/
import Derived.Test.YtpebilhdlblgoaaLe9
import Derived.Test.YtpebilhdlblgoaaLe10
import Derived.Test.YtpebilhdlblgoaaLe11
namespace Go.Proofs.Ytpebilhdlblgoaa
open Go.RowKit

theorem walk_leaseNone (d : LDeed) (w : World) (h : d.wf) : Calls Try.prog 5 #[.agg d.lst.toArray] w fun e w' => e = .returned (.bool true) ∧ Below w.heap.size w w' := walk_leaseNoneS sortsL d w h
theorem walk_leaseHolds (d : LDeed) (ot nn : Int) (w : World) (h : d.wf) (w1 : (Lit.int .i64 ot).wf = true) (w2 : (Lit.int .i64 nn).wf = true) :
    Calls Try.prog 4 #[.agg d.lst.toArray, .int .i64 ot, .int .i64 nn] w fun e w' => e = .returned (.bool true) ∧ Below w.heap.size w w' := walk_leaseHoldsS sortsL d ot nn w h w1 w2
end Go.Proofs.Ytpebilhdlblgoaa
