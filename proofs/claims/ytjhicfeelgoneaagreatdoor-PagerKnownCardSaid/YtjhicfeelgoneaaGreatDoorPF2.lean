/- PagerKnown: facts of the program that the statement names, joined. -/
import Derived.Test.YtjhicfeelgoneaaGreatDoorPF1
namespace Go.Proofs.YtjhicfeelgoneaaGreatDoor
open Go
set_option maxRecDepth 100000
theorem jf : joinedFacts Tryz.prog 4 Tryz.f4 Rows.pagerKnownSpec Rows.pagerKnownRow = true := by
  unfold joinedFacts
  rw [jf_inPlace, jf_unf, jf_rec, jf_named, jf_plain, jf_stops, jf_enter, jf_lift]
  kernel_rfl
theorem jf_inst : Tryz.f4.isInstance Tryz.prog Rows.pagerKnownRow.origin Rows.pagerKnownRow.targs := of_decide_eq_true (by kernel_rfl)
theorem jf_name : Tryz.prog.funcNamed Rows.pagerKnownRow.func = some 4 := by kernel_rfl
theorem jf_wrap : Tryz.f4.isWrapper Tryz.prog Rows.pagerKnownRow.wrapper Rows.pagerKnownRow.mainSum := by unfold Func.isWrapper; first | (rw [if_pos (by decide +kernel)]; kernel_rfl) | (rw [if_neg (by decide +kernel)]; exact ⟨rfl, rfl⟩)
end Go.Proofs.YtjhicfeelgoneaaGreatDoor
