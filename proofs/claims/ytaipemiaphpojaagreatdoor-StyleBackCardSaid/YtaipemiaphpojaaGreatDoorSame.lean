/- The law's own helpers: beyond; same, of a list and itself. -/
import Derived.Test.YtaipemiaphpojaaGreatDoorSPrint
namespace Go.Proofs.YtaipemiaphpojaaGreatDoor
open Go Go.Proofs Go.RowKit
theorem take_le {l : List Rl} {k : Nat} {q : Rl → Prop} (hk : k < l.length) (h : ∀ x ∈ l.take k, q x) (h1 : q l[k]) : ∀ x ∈ l.take (k + 1), q x := by
  intro x hx
  rw [List.take_add_one, List.getElem?_eq_getElem hk] at hx
  rcases List.mem_append.1 hx with hx | hx
  · exact h x hx
  · simp at hx; subst hx; exact h1
set_option maxHeartbeats 4000000 in
set_option maxRecDepth 1000000 in
theorem beyond_walk (A : Option Addr) (c : Nat) (l : List Rl) (w : World) (hC : RulesAt w A l) (hk : ∀ r ∈ l, r.ok) :
    Calls Tryz.prog 9 #[.slice A l.length c] w fun e w' => (∃ b, e = .returned (.bool b) ∧ (b = false → l.length ≤ 134217728 ∧ ∀ x ∈ l, x.text.size ≤ 134217728)) ∧ Below w.heap.size w w' := by
  have HK := Lib.hid hk
  clear hk
  go_enter Tryz.func9, Tryz.ntmps9
  go_wp2
  go_loopw [3, 7] (fun v i wr => ∃ k m : Nat, k ≤ l.length ∧ v = .int .i64 m ∧ i = .int .i64 k ∧ m ≤ 134217728 ∧ k ≤ m ∧ Hid (∀ x ∈ l.take k, x.text.size ≤ 134217728) ∧ Below w.heap.size w wr) (fun _ i _ => l.length - (intOf i).toNat)
  case atStart => exact ⟨0, 0, Nat.zero_le _, rfl, rfl, by omega, by omega, Lib.hid (by simp), Below.refl _ _⟩
  case round =>
    obtain ⟨k, m, hk, rfl, rfl, hm, hkm, hal, hb⟩ := hrel
    by_cases hlt : k < l.length
    · obtain ⟨ad, rfl, g0, g1, g2, g3, g4, g5⟩ := rule_at (hC.onward hb) k hlt
      obtain ⟨ho1, ho2, ho3⟩ := HK.out l[k] (List.getElem_mem hlt)
      have hw0 : IntKind.i64.wrap ((m : Int) + (1 + (l[k].text.size : Int))) = ((m + 1 + l[k].text.size : Nat) : Int) := by rw [IntWalk.i64_in _ (by omega)]; omega
      have hw1 : IntKind.i64.wrap (1 + (l[k].text.size : Int)) = 1 + (l[k].text.size : Int) := IntWalk.i64_in _ (by omega)
      by_cases hgt : 134217728 < m + 1 + l[k].text.size
      · have hd : decide ((134217728 : Int) < ((m + 1 + l[k].text.size : Nat) : Int)) = true := decide_eq_true (by omega)
        go_wp2_with fail
        go_ret
        exact ⟨⟨true, rfl, fun h => by cases h⟩, hb⟩
      · have hd : decide ((134217728 : Int) < ((m + 1 + l[k].text.size : Nat) : Int)) = false := decide_eq_false (by omega)
        go_wp2_with fail
        go_roundw
        case rel => exact ⟨k + 1, m + 1 + l[k].text.size, by omega, by go_num, by go_num, by omega, by omega, Lib.hid (take_le hlt hal.out (by omega)), hb⟩
        case measure => simp [intOf]; omega
    · go_wp2
      go_ret
      exact ⟨⟨false, rfl, fun _ => ⟨by omega, fun x hx => hal.out x (by rw [List.take_of_length_le (by omega)]; exact hx)⟩⟩, hb⟩
set_option maxHeartbeats 4000000 in
set_option maxRecDepth 1000000 in
theorem same_walk (A A' : Option Addr) (c c' : Nat) (l : List Rl) (w : World) (hC : RulesAt w A l) (hC' : RulesAt w A' l) (hc : l.length ≤ 134217728) :
    Calls Tryz.prog 13 #[.slice A l.length c, .slice A' l.length c'] w fun e w' => e = .returned (.bool true) ∧ Below w.heap.size w w' := by
  go_enter Tryz.func13, Tryz.ntmps13
  go_wp2
  go_loopw [13] (fun i wr => ∃ k : Nat, k ≤ l.length ∧ i = .int .i64 k ∧ Below w.heap.size w wr) (fun i _ => l.length - (intOf i).toNat)
  case atStart => exact ⟨0, Nat.zero_le _, rfl, Below.refl _ _⟩
  case round =>
    obtain ⟨k, hk, rfl, hb⟩ := hrel
    by_cases hlt : k < l.length
    · obtain ⟨ad, rfl, g0, g1, g2, g3, g4, g5⟩ := rule_at (hC.onward hb) k hlt
      obtain ⟨ad', rfl, k0, k1, k2, k3, k4, k5⟩ := rule_at (hC'.onward hb) k hlt
      go_wp2
      go_region_held3 (fun w' => w'.cell? (ad.add (k * 6)) = some (.string l[k].text) ∧ w'.cell? ⟨(ad.add (k * 6)).block, (ad.add (k * 6)).off + 1, none⟩ = some (.bool l[k].plain) ∧ w'.cell? ⟨(ad.add (k * 6)).block, (ad.add (k * 6)).off + 2, none⟩ = some (.bool l[k].fold) ∧ w'.cell? ⟨(ad.add (k * 6)).block, (ad.add (k * 6)).off + 3, none⟩ = some (.bool l[k].word) ∧ w'.cell? ⟨(ad.add (k * 6)).block, (ad.add (k * 6)).off + 4, none⟩ = some (.int .u16 l[k].style) ∧ w'.cell? ⟨(ad.add (k * 6)).block, (ad.add (k * 6)).off + 5, none⟩ = some (.int .i64 l[k].rank) ∧ w'.cell? (ad'.add (k * 6)) = some (.string l[k].text) ∧ w'.cell? ⟨(ad'.add (k * 6)).block, (ad'.add (k * 6)).off + 1, none⟩ = some (.bool l[k].plain) ∧ w'.cell? ⟨(ad'.add (k * 6)).block, (ad'.add (k * 6)).off + 2, none⟩ = some (.bool l[k].fold) ∧ w'.cell? ⟨(ad'.add (k * 6)).block, (ad'.add (k * 6)).off + 3, none⟩ = some (.bool l[k].word) ∧ w'.cell? ⟨(ad'.add (k * 6)).block, (ad'.add (k * 6)).off + 4, none⟩ = some (.int .u16 l[k].style) ∧ w'.cell? ⟨(ad'.add (k * 6)).block, (ad'.add (k * 6)).off + 5, none⟩ = some (.int .i64 l[k].rank)) (first | exact ⟨g0, g1, g2, g3, g4, g5, k0, k1, k2, k3, k4, k5⟩ | assumption) (fail)
      rename_i hH
      clear hH
      go_wp2
      go_roundw
      case rel => exact ⟨k + 1, by omega, by go_num, hb.drew⟩
      case measure => simp [intOf]; omega
    · go_wp2
      go_ret
      exact ⟨rfl, hb⟩
end Go.Proofs.YtaipemiaphpojaaGreatDoor
