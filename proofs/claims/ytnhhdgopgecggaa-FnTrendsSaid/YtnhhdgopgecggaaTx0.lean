/- The gains of a trend that is seen sixty times, run in the kernel: two noises. No condition. -/
import Derived.Test.YtnhhdgopgecggaaTx
namespace Go.Proofs.Ytnhhdgopgecggaa.Abs
open Go Ieee
theorem simN_0 : simN 0 := simN_of (by decide +kernel)
theorem simN_1 : simN 1 := simN_of (by decide +kernel)
end Go.Proofs.Ytnhhdgopgecggaa.Abs
