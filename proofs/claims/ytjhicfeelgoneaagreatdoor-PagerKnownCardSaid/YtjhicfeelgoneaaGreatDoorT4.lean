/- Tables of closed calls, 4: what each comes to, run once by the mirror. No condition. -/
import Derived.Test.YtjhicfeelgoneaaGreatDoorT4x0
import Derived.Test.YtjhicfeelgoneaaGreatDoorT4x1
import Derived.Test.YtjhicfeelgoneaaGreatDoorMir8
import Derived.KernelRfl
namespace Go.Proofs.YtjhicfeelgoneaaGreatDoor
open Go Go.Mir
set_option maxRecDepth 100000
section
noncomputable def tb4 : List EntC := tb4x0 ++ (tb4x1)
noncomputable def hk4 : Hook := hookB 604462909807318884417536 (hookC 8 gs tb4)
theorem hk4_sound : HookS Tryz.prog hk4 := by
  unfold hk4
  exact @hookB_sound Tryz.prog (hookC 8 gs tb4) 604462909807318884417536 (@hookC_sound Tryz.prog 8 mixed sizeG gs tb4 gs_low (by unfold tb4; exact (@entC_append Tryz.prog 8 gs tb4x0 (tb4x1) (@entC_of Tryz.prog (hook3) K 1000000 8 gs hook3_sound tb4x0 tb4x0_form tb4x0_run) (@entC_of Tryz.prog (hook3) K 1000000 8 gs hook3_sound tb4x1 tb4x1_form tb4x1_run))))
noncomputable def hook4 : Hook := hookOr hk4 (hook3)
theorem hook4_sound : HookS Tryz.prog hook4 := by
  unfold hook4
  exact @hookOr_sound Tryz.prog hk4 (hook3) hk4_sound hook3_sound
end
end Go.Proofs.YtjhicfeelgoneaaGreatDoor
