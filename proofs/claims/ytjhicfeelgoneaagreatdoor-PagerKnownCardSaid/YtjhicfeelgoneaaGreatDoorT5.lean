/- Tables of closed calls, 5: what each comes to, run once by the mirror. No condition. -/
import Derived.Test.YtjhicfeelgoneaaGreatDoorT5x0
import Derived.Test.YtjhicfeelgoneaaGreatDoorMir8
import Derived.KernelRfl
namespace Go.Proofs.YtjhicfeelgoneaaGreatDoor
open Go Go.Mir
set_option maxRecDepth 100000
section
noncomputable def tb5 : List EntC := tb5x0
noncomputable def hk5 : Hook := hookB 8388864 (hookC 8 gs tb5)
theorem hk5_sound : HookS Tryz.prog hk5 := by
  unfold hk5
  exact @hookB_sound Tryz.prog (hookC 8 gs tb5) 8388864 (@hookC_sound Tryz.prog 8 mixed sizeG gs tb5 gs_low (by unfold tb5; exact (@entC_of Tryz.prog (hook4) K 1000000 8 gs hook4_sound tb5x0 tb5x0_form tb5x0_run)))
noncomputable def hook5 : Hook := hookOr hk5 (hook4)
theorem hook5_sound : HookS Tryz.prog hook5 := by
  unfold hook5
  exact @hookOr_sound Tryz.prog hk5 (hook4) hk5_sound hook4_sound
end
end Go.Proofs.YtjhicfeelgoneaaGreatDoor
