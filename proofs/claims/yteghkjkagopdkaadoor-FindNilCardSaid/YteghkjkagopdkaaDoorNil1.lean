/- FindNil: the mirror's run. -/
import Derived.Test.YteghkjkagopdkaaDoorBase
import Derived.KernelRfl
namespace Go.Proofs.YteghkjkagopdkaaDoor
open Go Go.Mir
theorem nil_run (text : List UInt8) (at_ : Int) : (memGK 4 gs fun m => saysTrue (evCall Tryd.prog hook K 100000 5 [.str text, .int .i64 at_] m)) = true := by kernel_rfl
end Go.Proofs.YteghkjkagopdkaaDoor
