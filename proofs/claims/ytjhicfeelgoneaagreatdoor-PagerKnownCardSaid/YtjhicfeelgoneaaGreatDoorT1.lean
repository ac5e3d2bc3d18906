/- Tables of closed calls, 1: what each comes to, run once by the mirror. No condition. -/
import Derived.Test.YtjhicfeelgoneaaGreatDoorT1x0
import Derived.Test.YtjhicfeelgoneaaGreatDoorMir8
import Derived.KernelRfl
namespace Go.Proofs.YtjhicfeelgoneaaGreatDoor
open Go Go.Mir
set_option maxRecDepth 100000
section
noncomputable def tb1 : List EntC := tb1x0
noncomputable def hk1 : Hook := hookB 713645624424462880900289650520968270082736128 (hookC 8 gs tb1)
theorem hk1_sound : HookS Tryz.prog hk1 := by
  unfold hk1
  exact @hookB_sound Tryz.prog (hookC 8 gs tb1) 713645624424462880900289650520968270082736128 (@hookC_sound Tryz.prog 8 mixed sizeG gs tb1 gs_low (by unfold tb1; exact (@entC_of Tryz.prog (hook0) K 1000000 8 gs hook0_sound tb1x0 tb1x0_form tb1x0_run)))
noncomputable def hook1 : Hook := hookOr hk1 (hook0)
theorem hook1_sound : HookS Tryz.prog hook1 := by
  unfold hook1
  exact @hookOr_sound Tryz.prog hk1 (hook0) hk1_sound hook0_sound
end
end Go.Proofs.YtjhicfeelgoneaaGreatDoor
