/- Tables of closed calls, 0: what each comes to, run once by the mirror. No condition. -/
import Derived.Test.YtjhicfeelgoneaaGreatDoorT0x0
import Derived.Test.YtjhicfeelgoneaaGreatDoorT0x1
import Derived.Test.YtjhicfeelgoneaaGreatDoorT0x2
import Derived.Test.YtjhicfeelgoneaaGreatDoorT0x3
import Derived.Test.YtjhicfeelgoneaaGreatDoorT0x4
import Derived.Test.YtjhicfeelgoneaaGreatDoorT0x5
import Derived.Test.YtjhicfeelgoneaaGreatDoorT0x6
import Derived.Test.YtjhicfeelgoneaaGreatDoorT0x7
import Derived.Test.YtjhicfeelgoneaaGreatDoorT0x8
import Derived.Test.YtjhicfeelgoneaaGreatDoorT0x9
import Derived.Test.YtjhicfeelgoneaaGreatDoorT0x10
import Derived.Test.YtjhicfeelgoneaaGreatDoorT0x11
import Derived.Test.YtjhicfeelgoneaaGreatDoorMir8
import Derived.KernelRfl
namespace Go.Proofs.YtjhicfeelgoneaaGreatDoor
open Go Go.Mir
set_option maxRecDepth 100000
section
noncomputable def tb0 : List EntC := tb0x0 ++ (tb0x1 ++ (tb0x2 ++ (tb0x3 ++ (tb0x4 ++ (tb0x5 ++ (tb0x6 ++ (tb0x7 ++ (tb0x8 ++ (tb0x9 ++ (tb0x10 ++ (tb0x11)))))))))))
theorem gs_low : (gs.all fun x => Nat.ble x.1 8 && lows 8 x.2.2) = true := by kernel_rfl
noncomputable def hk0 : Hook := hookB 13803913942747802186740188613137170400478460518088644955246503389036544 (hookC 8 ([] : Gs) tb0)
theorem hk0_sound : HookS Tryz.prog hk0 := by
  unfold hk0
  exact @hookB_sound Tryz.prog (hookC 8 ([] : Gs) tb0) 13803913942747802186740188613137170400478460518088644955246503389036544 (@hookC_sound Tryz.prog 8 mixed sizeG ([] : Gs) tb0 rfl (by unfold tb0; exact (@entC_append Tryz.prog 8 ([] : Gs) tb0x0 (tb0x1 ++ (tb0x2 ++ (tb0x3 ++ (tb0x4 ++ (tb0x5 ++ (tb0x6 ++ (tb0x7 ++ (tb0x8 ++ (tb0x9 ++ (tb0x10 ++ (tb0x11))))))))))) (@entC_of Tryz.prog (hookS) K 1000000 8 ([] : Gs) hookS_sound tb0x0 tb0x0_form tb0x0_run) (@entC_append Tryz.prog 8 ([] : Gs) tb0x1 (tb0x2 ++ (tb0x3 ++ (tb0x4 ++ (tb0x5 ++ (tb0x6 ++ (tb0x7 ++ (tb0x8 ++ (tb0x9 ++ (tb0x10 ++ (tb0x11)))))))))) (@entC_of Tryz.prog (hookS) K 1000000 8 ([] : Gs) hookS_sound tb0x1 tb0x1_form tb0x1_run) (@entC_append Tryz.prog 8 ([] : Gs) tb0x2 (tb0x3 ++ (tb0x4 ++ (tb0x5 ++ (tb0x6 ++ (tb0x7 ++ (tb0x8 ++ (tb0x9 ++ (tb0x10 ++ (tb0x11))))))))) (@entC_of Tryz.prog (hookS) K 1000000 8 ([] : Gs) hookS_sound tb0x2 tb0x2_form tb0x2_run) (@entC_append Tryz.prog 8 ([] : Gs) tb0x3 (tb0x4 ++ (tb0x5 ++ (tb0x6 ++ (tb0x7 ++ (tb0x8 ++ (tb0x9 ++ (tb0x10 ++ (tb0x11)))))))) (@entC_of Tryz.prog (hookS) K 1000000 8 ([] : Gs) hookS_sound tb0x3 tb0x3_form tb0x3_run) (@entC_append Tryz.prog 8 ([] : Gs) tb0x4 (tb0x5 ++ (tb0x6 ++ (tb0x7 ++ (tb0x8 ++ (tb0x9 ++ (tb0x10 ++ (tb0x11))))))) (@entC_of Tryz.prog (hookS) K 1000000 8 ([] : Gs) hookS_sound tb0x4 tb0x4_form tb0x4_run) (@entC_append Tryz.prog 8 ([] : Gs) tb0x5 (tb0x6 ++ (tb0x7 ++ (tb0x8 ++ (tb0x9 ++ (tb0x10 ++ (tb0x11)))))) (@entC_of Tryz.prog (hookS) K 1000000 8 ([] : Gs) hookS_sound tb0x5 tb0x5_form tb0x5_run) (@entC_append Tryz.prog 8 ([] : Gs) tb0x6 (tb0x7 ++ (tb0x8 ++ (tb0x9 ++ (tb0x10 ++ (tb0x11))))) (@entC_of Tryz.prog (hookS) K 1000000 8 ([] : Gs) hookS_sound tb0x6 tb0x6_form tb0x6_run) (@entC_append Tryz.prog 8 ([] : Gs) tb0x7 (tb0x8 ++ (tb0x9 ++ (tb0x10 ++ (tb0x11)))) (@entC_of Tryz.prog (hookS) K 1000000 8 ([] : Gs) hookS_sound tb0x7 tb0x7_form tb0x7_run) (@entC_append Tryz.prog 8 ([] : Gs) tb0x8 (tb0x9 ++ (tb0x10 ++ (tb0x11))) (@entC_of Tryz.prog (hookS) K 1000000 8 ([] : Gs) hookS_sound tb0x8 tb0x8_form tb0x8_run) (@entC_append Tryz.prog 8 ([] : Gs) tb0x9 (tb0x10 ++ (tb0x11)) (@entC_of Tryz.prog (hookS) K 1000000 8 ([] : Gs) hookS_sound tb0x9 tb0x9_form tb0x9_run) (@entC_append Tryz.prog 8 ([] : Gs) tb0x10 (tb0x11) (@entC_of Tryz.prog (hookS) K 1000000 8 ([] : Gs) hookS_sound tb0x10 tb0x10_form tb0x10_run) (@entC_of Tryz.prog (hookS) K 1000000 8 ([] : Gs) hookS_sound tb0x11 tb0x11_form tb0x11_run))))))))))))))
noncomputable def hook0 : Hook := hookOr hk0 (hookS)
theorem hook0_sound : HookS Tryz.prog hook0 := by
  unfold hook0
  exact @hookOr_sound Tryz.prog hk0 (hookS) hk0_sound hookS_sound
end
end Go.Proofs.YtjhicfeelgoneaaGreatDoor
