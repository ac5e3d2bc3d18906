/- Tables of closed calls, 3: what each comes to, run once by the mirror. No condition. -/
import Derived.Test.YtjhicfeelgoneaaGreatDoorT3x0
import Derived.Test.YtjhicfeelgoneaaGreatDoorT3x1
import Derived.Test.YtjhicfeelgoneaaGreatDoorMir8
import Derived.KernelRfl
namespace Go.Proofs.YtjhicfeelgoneaaGreatDoor
open Go Go.Mir
set_option maxRecDepth 100000
section
noncomputable def tb3 : List EntC := tb3x0 ++ (tb3x1)
noncomputable def hk3 : Hook := hookB 18889465931478580854784 (hookC 8 gs tb3)
theorem hk3_sound : HookS Tryz.prog hk3 := by
  unfold hk3
  exact @hookB_sound Tryz.prog (hookC 8 gs tb3) 18889465931478580854784 (@hookC_sound Tryz.prog 8 mixed sizeG gs tb3 gs_low (by unfold tb3; exact (@entC_append Tryz.prog 8 gs tb3x0 (tb3x1) (@entC_of Tryz.prog (hook2) K 1000000 8 gs hook2_sound tb3x0 tb3x0_form tb3x0_run) (@entC_of Tryz.prog (hook2) K 1000000 8 gs hook2_sound tb3x1 tb3x1_form tb3x1_run))))
noncomputable def hook3 : Hook := hookOr hk3 (hook2)
theorem hook3_sound : HookS Tryz.prog hook3 := by
  unfold hook3
  exact @hookOr_sound Tryz.prog hk3 (hook2) hk3_sound hook2_sound
end
end Go.Proofs.YtjhicfeelgoneaaGreatDoor
