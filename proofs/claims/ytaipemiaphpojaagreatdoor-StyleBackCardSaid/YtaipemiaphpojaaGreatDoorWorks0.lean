/- 'works', by the mirror: true, in every memory where the tables lie. -/
import Derived.Test.YtaipemiaphpojaaGreatDoorBaseP
import Derived.KernelRfl
namespace Go.Proofs.YtaipemiaphpojaaGreatDoor
open Go Go.Mir
theorem works_run : (memGK 10 gs fun m => saysTrue (evCall Tryz.prog hook K 100000 10 [] m)) = true := by kernel_rfl
end Go.Proofs.YtaipemiaphpojaaGreatDoor
