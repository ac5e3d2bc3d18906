/- style.Parse's deferred closure. -/
import Derived.Test.YtaipemiaphpojaaGreatDoorRuleW
import Derived.Tactics
import Derived.Tactics2
import Derived.Defers
import Derived.Recover
namespace Go.Proofs.YtaipemiaphpojaaGreatDoor
open Go Go.Proofs Go.RowKit
set_option maxHeartbeats 4000000 in
set_option maxRecDepth 1000000 in
theorem catch_panicking (p p2 : Addr) (q : Nat) (u1 u2 : Value) (older : List PanicEntry) (w : World) (hc : w.cell? p = some u1) (hc2 : w.cell? p2 = some u2) (hz : w.frozen? p = false) (hz2 : w.frozen? p2 = false) (hne : p.block ≠ p2.block) :
    CallsD Tryz.prog 43 #[.pointer (some p), .pointer (some p2)] (.panicking ({ v := .iface 91 (.pointer (some ⟨q, 0, none⟩)), recovered := false } :: older)) w fun e u' w' =>
      e = .returned (.tuple #[]) ∧ u' = .panicking ({ v := .iface 91 (.pointer (some ⟨q, 0, none⟩)), recovered := true } :: older) ∧ w' = (w.setCell p (.slice none 0 0)).setCell p2 (.iface 91 (.pointer (some ⟨q, 0, none⟩))) := by
  refine callsD_of_wpS Tryz.func43 rfl fun c₀ cs hu => ?_
  have hta : ∀ w, (Instr.typeAssert (.iface 91 (.pointer (some ⟨q, 0, none⟩))) 20 91 true).run Tryz.prog w = .ok (.tuple #[.pointer (some ⟨q, 0, none⟩), .bool true]) w := fun w => by kernel_rfl
  have hcs : ∀ v, (w.setCell p v).cell? p2 = some u2 := fun v => by
    unfold World.cell? at hc2 ⊢
    rw [Below.heap_setCell _ _ _ _ (Ne.symm hne)]; exact hc2
  have hzs : ∀ v, (w.setCell p v).frozen? p2 = false := fun v => by
    rw [← hz2]
    exact World.frozen?_of_block (Below.heap_setCell _ _ _ _ (Ne.symm hne))
  change Code.wpS Tryz.prog _ _ { tmps := #[.pointer (some p), .pointer (some p2), undef, undef, undef, undef, undef, undef, undef, undef, undef, undef, undef, undef, undef, undef, undef, undef], defers := [] } _ _
  apply wpS_seq
  apply wpS_region
  simp [wpOpsS, go_sem, recoverD, hu, Tryz.ntmps43, Exit.thenS]
  refine wpS_of_wp ?_
  go_wp2
  simp [bodyPostS, results, Tryz.results43, go_sem]
set_option maxHeartbeats 4000000 in
set_option maxRecDepth 1000000 in
theorem catch_idle (p p2 : Addr) (w : World) :
    CallsD Tryz.prog 43 #[.pointer (some p), .pointer (some p2)] .returning w fun e u' w' => e = .returned (.tuple #[]) ∧ u' = .returning ∧ w' = w := by
  refine callsD_of_wpS Tryz.func43 rfl fun c₀ cs hu => ?_
  change Code.wpS Tryz.prog _ _ { tmps := #[.pointer (some p), .pointer (some p2), undef, undef, undef, undef, undef, undef, undef, undef, undef, undef, undef, undef, undef, undef, undef, undef], defers := [] } _ _
  apply wpS_seq
  apply wpS_region
  simp [wpOpsS, go_sem, recoverD, hu, Tryz.ntmps43, Exit.thenS]
  refine wpS_of_wp ?_
  go_wp2
  cases c₀
  simp_all [bodyPostS, results, Tryz.results43, go_sem]
end Go.Proofs.YtaipemiaphpojaaGreatDoor
