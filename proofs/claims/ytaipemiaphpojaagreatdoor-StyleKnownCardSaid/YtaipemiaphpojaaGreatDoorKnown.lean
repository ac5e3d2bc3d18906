/- StyleKnown: the law says true; nothing that stood there turns. No condition. -/
import Derived.Test.YtaipemiaphpojaaGreatDoorKnown1
import Derived.Test.YtaipemiaphpojaaGreatDoorCards
import Derived.Test.YtaipemiaphpojaaGreatDoorTie
import Derived.JoinedOf
import Derived.ProofKit
import Derived.ChangeMaps5
import Derived.Stop.Joined
import Derived.SevenTiedAt
namespace Go.Proofs.YtaipemiaphpojaaGreatDoor
open Go Go.Mir Go.ChangeMaps Go.ChangeShapes Go.WideShapes Go.ChangeAt Go.RowKit

set_option maxRecDepth 100000 in
theorem known_lifted (os : Os) (started : os.Started) (H : Type) (enc : TypeId × Value → H) :
    ReturnsInHanded {} Tryz.checked os 8 .any (fun w args => (Rows.styleKnownSpec.pre enc Tryz.prog Tryz.f8 [] false w args ∧ laidMetH Tryz.prog lay w) ∧ sizedMet enc Tryz.prog Tryz.f8 (OpenSpec.ofChange Rows.styleKnownSpec) false w args)
      (Rows.styleKnownSpec.post enc Tryz.prog Tryz.f8 false true false false) := by
  refine returns_shaped (C := Tryz.checked) (X := fun w _ => laidMetH Tryz.prog lay w) (fun _ _ _ hh h => h.of_heap hh) own started (by kernel_rfl) Tryz.func8
    (ChangeSpec.witness_shaped (enc := enc) (C := Tryz.checked) (os := os) (X := fun w _ => laidMetH Tryz.prog lay w) false (startW os) #[] 8 (laidW_os _ _ _ _)
      (start_shaped os _) (by kernel_rfl) (by kernel_rfl) (by kernel_rfl) (start_met os _)) ?_
  intro W base args ds gs' before hs hval hW _ hL
  have hW' := hW
  obtain ⟨p, q, hA0, hV, rfl, _, _⟩ := hW
  have hA : DataW.TrodAll enc Tryz.prog W 0 (fun _ => true) true Tryz.f8.params.toList args.toList ds p := hA0
  rw [Tryz.params8] at hA hval
  obtain ⟨rfl, rfl, rfl⟩ : args = #[] ∧ ds = [] ∧ p = [] := by
    obtain ⟨a, b, c⟩ := trodAll_nil hA
    exact ⟨Array.toList_eq_nil_iff.1 a, b, c⟩
  obtain ⟨rfl, rfl⟩ := trodVars_none hV
  refine (calls_true (X := hook2) hook2_sound mixed sizeG known_run (shaped_lt hs sizeG rowsAll rowsMore) (gs_fit hs hL) (us := []) rfl).mono fun e W' ⟨he, hb⟩ => ?_
  subst he
  refine ⟨_, rfl, post_true hW' rfl hb Tryz.underlying4 (by kernel_rfl) rfl rfl rfl fun sp _ => ?_⟩
  rw [Tryz.params8]
  rfl

set_option maxRecDepth 100000 in
theorem known_holds : Rows.StyleKnownSaid :=
  OpenClaim.holds_of_wide 8 Tryz.f8 rfl rfl rfl rfl rfl rfl rfl ⟨rfl, rfl, rfl, rfl, rfl⟩ rfl rfl rfl rfl rfl (by kernel_rfl) Tryz.func8 (by kernel_rfl)
    (of_decide_eq_true (by kernel_rfl)) (by unfold Func.isWrapper; first | (rw [if_pos (by decide +kernel)]; kernel_rfl) | (rw [if_neg (by decide +kernel)]; exact ⟨rfl, rfl⟩))
    (fun os started H enc _ => known_lifted os started H enc)

/-- THE TIED CARD. -/
theorem known_card : Rows.StyleKnownCardSaid :=
  Claim7.holds_tied_plain_at .later [] [.data, .data, .data, .data, .handle, .sentinel, .sentinel, .pinned] true (true, "0faff946a1b0354a72b80edcf003e6b6464e614aba53644716c9383e271c7940") true
    known_holds (fun _ h => by cases h) (by kernel_rfl) (fun _ h => by cases h) styleKnown_row_tie rfl ⟨rfl, rfl⟩ (by kernel_rfl) rfl
    (fun f fn hf hfn => by
      obtain rfl : f = 8 := Option.some.inj ((show Tryz.prog.funcNamed "shuttle/shuttlelaw23.StyleKnown" = some 8 by kernel_rfl).symm.trans hf) |>.symm
      obtain rfl : fn = Tryz.f8 := (Option.some.inj (Tryz.func8.symm.trans hfn)).symm
      exact ⟨by kernel_rfl, fun j t ht => by
        rw [Tryz.params8] at ht
        have hm : t ∈ ([] : List Nat) := by simpa using Array.mem_of_getElem? ht
        cases hm⟩)
    (by kernel_rfl)
#print axioms known_card
end Go.Proofs.YtaipemiaphpojaaGreatDoor
