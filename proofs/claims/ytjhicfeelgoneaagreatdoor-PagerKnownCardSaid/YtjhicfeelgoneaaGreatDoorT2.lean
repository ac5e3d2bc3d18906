/- Tables of closed calls, 2: what each comes to, run once by the mirror. No condition. -/
import Derived.Test.YtjhicfeelgoneaaGreatDoorT2x0
import Derived.Test.YtjhicfeelgoneaaGreatDoorMir8
import Derived.KernelRfl
namespace Go.Proofs.YtjhicfeelgoneaaGreatDoor
open Go Go.Mir
set_option maxRecDepth 100000
section
noncomputable def tb2 : List EntC := tb2x0
noncomputable def hk2 : Hook := hookB 8166776807370173761128151842816301989888 (hookC 8 gs tb2)
theorem hk2_sound : HookS Tryz.prog hk2 := by
  unfold hk2
  exact @hookB_sound Tryz.prog (hookC 8 gs tb2) 8166776807370173761128151842816301989888 (@hookC_sound Tryz.prog 8 mixed sizeG gs tb2 gs_low (by unfold tb2; exact (@entC_of Tryz.prog (hook1) K 1000000 8 gs hook1_sound tb2x0 tb2x0_form tb2x0_run)))
noncomputable def hook2 : Hook := hookOr hk2 (hook1)
theorem hook2_sound : HookS Tryz.prog hook2 := by
  unfold hook2
  exact @hookOr_sound Tryz.prog hk2 (hook1) hk2_sound hook1_sound
end
end Go.Proofs.YtjhicfeelgoneaaGreatDoor
