/- PagerKnown: the law, lifted. -/
import Derived.Test.YtjhicfeelgoneaaGreatDoorPKnown1
import Derived.Test.YtjhicfeelgoneaaGreatDoorCards
import Derived.Test.YtjhicfeelgoneaaGreatDoorTie
import Derived.JoinedOf
import Derived.ProofKit
import Derived.ChangeMaps5
import Derived.Stop.Joined
import Derived.SevenTiedAt
namespace Go.Proofs.YtjhicfeelgoneaaGreatDoor
open Go Go.Mir Go.ChangeMaps Go.ChangeShapes Go.WideShapes Go.ChangeAt Go.RowKit

set_option maxRecDepth 100000 in
theorem known_lifted (os : Os) (started : os.Started) (H : Type) (enc : TypeId × Value → H) :
    ReturnsInHanded {} Tryz.checked os 4 .any (fun w args => (Rows.pagerKnownSpec.pre enc Tryz.prog Tryz.f4 [] false w args ∧ laidMetH Tryz.prog lay w) ∧ sizedMet enc Tryz.prog Tryz.f4 (OpenSpec.ofChange Rows.pagerKnownSpec) false w args)
      (Rows.pagerKnownSpec.post enc Tryz.prog Tryz.f4 false true false false) := by
  refine returns_shaped (C := Tryz.checked) (X := fun w _ => laidMetH Tryz.prog lay w) (fun _ _ _ hh h => h.of_heap hh) own started (by kernel_rfl) Tryz.func4
    (ChangeSpec.witness_shaped (enc := enc) (C := Tryz.checked) (os := os) (X := fun w _ => laidMetH Tryz.prog lay w) false (startW os) #[] 8 (laidW_os _ _ _ _)
      (start_shaped os _) (by kernel_rfl) (by kernel_rfl) (by kernel_rfl) (start_met os _)) ?_
  intro W base args ds gs' before hs hval hW _ hL
  have hW' := hW
  obtain ⟨p, q, hA0, hV, rfl, _, _⟩ := hW
  have hA : DataW.TrodAll enc Tryz.prog W 0 (fun _ => true) true Tryz.f4.params.toList args.toList ds p := hA0
  rw [Tryz.params4] at hA hval
  obtain ⟨rfl, rfl, rfl⟩ : args = #[] ∧ ds = [] ∧ p = [] := by
    obtain ⟨a, b, c⟩ := trodAll_nil hA
    exact ⟨Array.toList_eq_nil_iff.1 a, b, c⟩
  obtain ⟨rfl, rfl⟩ := trodVars_none hV
  refine (calls_true (X := hook6) hook6_sound mixed sizeG known_run (shaped_lt hs sizeG rowsAll rowsMore) (gs_fit hs hL) (us := []) rfl).mono fun e W' ⟨he, hb⟩ => ?_
  subst he
  refine ⟨_, rfl, post_true hW' rfl hb Tryz.underlying4 (by kernel_rfl) rfl rfl rfl fun sp _ => ?_⟩
  rw [Tryz.params4]
  rfl

end Go.Proofs.YtjhicfeelgoneaaGreatDoor
