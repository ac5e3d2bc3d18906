/- StyleKnown: the mirror's runs: 'works', and the law over it. -/
import Derived.Test.YtaipemiaphpojaaGreatDoorBase
import Derived.Test.YtaipemiaphpojaaGreatDoorMir6
import Derived.KernelRfl
namespace Go.Proofs.YtaipemiaphpojaaGreatDoor
open Go Go.Mir
theorem works_run : (memGK 10 gs fun m => saysTrue (evCall Tryz.prog hook K 100000 10 [] m)) = true := by kernel_rfl
noncomputable def ents : List Ent := [⟨10, [], true⟩]
noncomputable def hook2 : Hook := hookOr hook (hookE gs ents)
theorem gs_low : (gs.all fun x => Nat.ble x.1 9 && lows 9 x.2.2) = true := by kernel_rfl
set_option maxRecDepth 100000 in
theorem works_ent : EntF Tryz.prog 9 gs ⟨10, [], true⟩ := by
  obtain ⟨m', hm⟩ := says_ok works_run
  exact ⟨⟨_, _, Tryz.func10, by kernel_rfl, rfl⟩, rfl, hook, K, 100000, m', hook_sound, hm⟩
set_option maxRecDepth 100000 in
theorem hook2_sound : HookS Tryz.prog hook2 := by
  unfold hook2
  refine @hookOr_sound Tryz.prog hook (hookE gs ents) hook_sound (@hookE_sound Tryz.prog 9 mixed sizeG gs ents gs_low ?_)
  intro e he
  obtain rfl := List.mem_singleton.1 he
  exact works_ent
theorem known_run : (memGK 10 gs fun m => saysTrue (evCall Tryz.prog hook2 K 100000 8 [] m)) = true := by kernel_rfl
end Go.Proofs.YtaipemiaphpojaaGreatDoor
