/- PagerKnown: the mirror's run over the tables. -/
import Derived.Test.YtjhicfeelgoneaaGreatDoorT6
namespace Go.Proofs.YtjhicfeelgoneaaGreatDoor
open Go Go.Mir
set_option maxRecDepth 100000
theorem known_fast : (memGK 9 gs fun m => saysTrue (evCallF Tryz.prog hook6 K 1000000 4 [] m)) = true := by kernel_rfl
theorem known_run : (memGK 9 gs fun m => saysTrue (evCall Tryz.prog hook6 K 1000000 4 [] m)) = true := fast known_fast
end Go.Proofs.YtjhicfeelgoneaaGreatDoor
