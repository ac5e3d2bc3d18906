/- 'works' and the table of strconv, behind whatever calls. -/
import Derived.Test.YtaipemiaphpojaaGreatDoorWorks0
import Derived.Lib.AppendIntMem
namespace Go.Proofs.YtaipemiaphpojaaGreatDoor
open Go Go.Mir
set_option maxRecDepth 100000
/-- Behind whatever calls that left what stood there. -/
theorem works_says {W : World} (hs : W.ShapedOpen Tryz.prog) (h : laidMetH Tryz.prog lay W) (w' : World) (hb : Go.RowKit.Below W.heap.size W w') :
    Calls Tryz.prog 10 #[] w' fun e w'' => e = .returned (.bool true) ∧ Go.RowKit.Below w'.heap.size w' w'' := by
  have h0 := shaped_lt hs sizeG rowsAll rowsMore
  refine calls_true (X := hook) hook_sound mixed sizeG works_run (fun g hg => Nat.lt_of_lt_of_le (h0 g hg) hb.size) (fun x hx => ?_) (us := []) rfl
  obtain ⟨h1, us, lh, h2, h3⟩ := gs_fit hs h x hx
  exact ⟨h1, us, lh, by rw [hb.block _ (h0 _ h1)]; exact h2, h3⟩
/-- The table of strconv, as its contract asks for it. -/
theorem pow_tab {W : World} (hs : W.ShapedOpen Tryz.prog) (h : laidMetH Tryz.prog lay W) : Lib.TabBelow Tryz.prog W.heap.size W "internal/strconv.uint64pow10" .u64 Lib.pow10Tab := by
  intro w' hb
  have h0 := shaped_lt hs sizeG rowsAll rowsMore
  rw [MakeChecks.laidMetH_plain _ _ _ (by kernel_rfl)] at h
  obtain ⟨ps, hl, _, _⟩ := h
  obtain ⟨y3, k3⟩ := zrow z3
  obtain ⟨l3, r3⟩ := row_of_laid hs hl (name := "internal/strconv.uint64pow10") (by simp [lay]) g3 (by rw [sizeG]; omega) ty3 flat3 k3
  rw [← hb.block 3 (h0 3 (by omega))] at r3
  have e : (v3 : List Value) = Lib.pow10Tab.map fun z => Value.int .u64 z := by kernel_rfl
  unfold Lib.TabIs World.var?
  rw [g3]
  simp only [Option.bind_some, r3, e]
end Go.Proofs.YtaipemiaphpojaaGreatDoor
