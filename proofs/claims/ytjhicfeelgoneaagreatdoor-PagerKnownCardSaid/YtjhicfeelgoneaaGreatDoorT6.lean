/- Tables of closed calls, 6: what each comes to, run once by the mirror. No condition. -/
import Derived.Test.YtjhicfeelgoneaaGreatDoorT6x0
import Derived.Test.YtjhicfeelgoneaaGreatDoorMir8
import Derived.KernelRfl
namespace Go.Proofs.YtjhicfeelgoneaaGreatDoor
open Go Go.Mir
set_option maxRecDepth 100000
section
noncomputable def tb6 : List EntC := tb6x0
noncomputable def hk6 : Hook := hookB 16384 (hookC 8 gs tb6)
theorem hk6_sound : HookS Tryz.prog hk6 := by
  unfold hk6
  exact @hookB_sound Tryz.prog (hookC 8 gs tb6) 16384 (@hookC_sound Tryz.prog 8 mixed sizeG gs tb6 gs_low (by unfold tb6; exact (@entC_of Tryz.prog (hook5) K 1000000 8 gs hook5_sound tb6x0 tb6x0_form tb6x0_run)))
noncomputable def hook6 : Hook := hookOr hk6 (hook5)
theorem hook6_sound : HookS Tryz.prog hook6 := by
  unfold hook6
  exact @hookOr_sound Tryz.prog hk6 (hook5) hk6_sound hook5_sound
end
end Go.Proofs.YtjhicfeelgoneaaGreatDoor
