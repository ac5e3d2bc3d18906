/- StyleBack: the law says true; nothing that stood there turns. No condition. -/
import Derived.Test.YtaipemiaphpojaaGreatDoorBackW
import Derived.Test.YtaipemiaphpojaaGreatDoorOpen
import Derived.Test.YtaipemiaphpojaaGreatDoorEnvW
import Derived.Test.YtaipemiaphpojaaGreatDoorCards
import Derived.JoinedOf
import Derived.ProofKit
import Derived.ChangeMaps5
import Derived.Stop.Joined
import Derived.SevenTiedAt
import Derived.WideKeyArgs
import Derived.Carry
namespace Go.Proofs.YtaipemiaphpojaaGreatDoor
open Go Go.Mir Go.ChangeMaps Go.ChangeShapes Go.WideShapes Go.ChangeAt Go.RowKit
theorem readableB : laidOutB Tryz.prog = true ∧ Tryz.prog.readableRec 22 = true ∧ (22 : TypeId) < Tryz.prog.types.size ∧ Tryz.prog.readableRec 9 = true ∧ (9 : TypeId) < Tryz.prog.types.size := ⟨by kernel_rfl, by kernel_rfl, of_decide_eq_true (by kernel_rfl), by kernel_rfl, of_decide_eq_true (by kernel_rfl)⟩
set_option maxRecDepth 100000 in
theorem back_lifted (os : Os) (started : os.Started) (H : Type) (enc : TypeId × Value → H) :
    ReturnsInHanded {} Tryz.checked os 6 .any (fun w args => (Rows.styleBackSpec.pre enc Tryz.prog Tryz.f6 [] false w args ∧ laidMetH Tryz.prog lay w) ∧ sizedMet enc Tryz.prog Tryz.f6 (OpenSpec.ofChange Rows.styleBackSpec) false w args)
      (Rows.styleBackSpec.post enc Tryz.prog Tryz.f6 false true false false) := by
  refine returns_shaped (C := Tryz.checked) (X := fun w _ => laidMetH Tryz.prog lay w) (fun _ _ _ hh h => h.of_heap hh) own started (by kernel_rfl) Tryz.func6
    (ChangeSpec.witness_shaped (enc := enc) (C := Tryz.checked) (os := os) (X := fun w _ => laidMetH Tryz.prog lay w) false (startW os) #[.slice none 0 0, .string ⟨#[]⟩] 8 (laidW_os _ _ _ _)
      (start_shaped os _) (by kernel_rfl) (by kernel_rfl) (by kernel_rfl) (start_met os _)) ?_
  intro W base args ds gs' before hs hval hW hsz hL
  have hW' := hW
  obtain ⟨p, q, hA0, hV, rfl, _, _⟩ := hW
  have hA : DataW.TrodAll enc Tryz.prog W 0 (fun _ => true) true Tryz.f6.params.toList args.toList ds p := hA0
  rw [Tryz.params6] at hA hval hsz
  obtain ⟨v0, vs, d0, ds', p0, q0, ea, rfl, rfl, h0, hA1⟩ := trodAll_cons hA
  obtain ⟨v1, vs1, d1, ds1', p1, q1, ea1, rfl, rfl, h1, hA2⟩ := trodAll_cons hA1
  obtain ⟨rfl, rfl, rfl⟩ := trodAll_nil hA2
  obtain ⟨rfl, rfl⟩ := trodVars_none hV
  obtain rfl : args = #[v0, v1] := Array.toList_inj.1 (by rw [ea, ea1])
  have h00 := h0
  obtain ⟨fuel, hf⟩ := h00
  obtain ⟨a1, len1, cap1, rfl⟩ := okWide_slice Tryz.underlying22 (hval 0 22 v0 rfl rfl)
  obtain ⟨s, rfl⟩ := okWide_string Tryz.underlying9 (hval 1 9 v1 rfl rfl)
  obtain ⟨A, c, l, hcs, hc, hnone, hR, hk⟩ := open_rules hf
  simp [Value.cells] at hcs
  obtain ⟨rfl, rfl, rfl⟩ := hcs
  have hok : ∀ r ∈ l, r.ok := fun r hr => by
    obtain ⟨h1, h2, h3⟩ := hk r hr
    have h4 := List.all_eq_true.1 hsz _ (DataW.weights_mem_each (j := 0) (t := 22) (d := d0) rfl rfl _ h3)
    exact ⟨h1, h2, by simpa [reachBytes] using of_decide_eq_true h4⟩
  obtain ⟨hEnv, h9⟩ := env_of hs hL
  refine (back_walk a1 cap1 l s W hR hc hok hEnv h9 (works_says hs hL)).mono fun e W' ⟨he, hb⟩ => ?_
  subst he
  refine ⟨_, rfl, post_true hW' rfl hb Tryz.underlying4 (by kernel_rfl) rfl rfl rfl fun sp hsp => ?_⟩
  rw [Tryz.params6]
  have hlt := hW'.lt
  have e : p0 ++ (p1 ++ []) ++ [] = p0 ++ p1 := by simp
  rw [e] at hlt hsp ⊢
  exact trodAll_mk2 (WideElems.Trod_stays readableB.1 readableB.2.1 readableB.2.2.1 h0 (fun x hx => hb.same (hlt x (List.mem_append_left _ hx))) (fun x hx => hsp x (List.mem_append_left _ hx)))
    (WideElems.Trod_stays readableB.1 readableB.2.2.2.1 readableB.2.2.2.2 h1 (fun x hx => hb.same (hlt x (List.mem_append_right _ hx))) (fun x hx => hsp x (List.mem_append_right _ hx)))
end Go.Proofs.YtaipemiaphpojaaGreatDoor
