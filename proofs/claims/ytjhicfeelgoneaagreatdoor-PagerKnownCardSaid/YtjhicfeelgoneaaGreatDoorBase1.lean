/- What every run of this seat stands on: the hooks, with sort.Slice. -/
import Derived.Test.YtjhicfeelgoneaaGreatDoorBase
import Derived.Test.YtjhicfeelgoneaaGreatDoorSrt
namespace Go.Proofs.YtjhicfeelgoneaaGreatDoor
open Go Go.Mir
noncomputable def hookS : Hook := hookOr (hookSrt 236 307) hook
set_option maxRecDepth 100000 in
theorem hookS_sound : HookS Tryz.prog hookS := by
  unfold hookS
  exact @hookOr_sound Tryz.prog (hookSrt 236 307) hook srt_hook hook_sound
end Go.Proofs.YtjhicfeelgoneaaGreatDoor
