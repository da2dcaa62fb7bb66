/- The gains of a trend that is seen sixty times, run in the kernel: two noises. No condition. -/
import Derived.Test.YtnhhdgopgecggaaTx
namespace Go.Proofs.Ytnhhdgopgecggaa.Abs
open Go Ieee
theorem simN_2 : simN 2 := simN_of (by decide +kernel)
theorem simN_3 : simN 3 := simN_of (by decide +kernel)
end Go.Proofs.Ytnhhdgopgecggaa.Abs
