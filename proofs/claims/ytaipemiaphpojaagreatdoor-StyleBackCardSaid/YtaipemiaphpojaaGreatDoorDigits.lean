/- shuttleref23.digits: a number's numeral. -/
import Derived.Test.YtaipemiaphpojaaGreatDoorRQuote
import Derived.Deep.RegionWith
import Derived.IntWalk
import Derived.Lib.ItoaLen
namespace Go.Proofs.YtaipemiaphpojaaGreatDoor
open Go Go.Proofs Go.RowKit
/-- One byte in a block, as a text. -/
theorem conv_one (d : Int) (h0 : 0 ≤ d) (h1 : d ≤ 255) (W : World) (a : Addr) (hc : W.cell? a = some (.int .u8 d)) : (convert 70 9 (.slice (some a) 1 1)).run Tryz.prog W = .ok (.string ⟨#[UInt8.ofNat d.toNat]⟩) W := by
  refine run_convert_bytes_back (P := Tryz.prog) W 70 9 5 a 1 [UInt8.ofNat d.toNat] Tryz.underlying70 Tryz.underlying5 Tryz.underlying9 ?_
  intro j hj
  obtain rfl : j = 0 := by simpa using hj
  rw [show a.add 0 = a from rfl, hc]
  simp only [List.getElem_cons_zero]
  congr 2
  have : (UInt8.ofNat d.toNat).toNat = d.toNat := by simp; omega
  rw [this]
  omega
theorem cat_one (D : List UInt8) (d : UInt8) : (({ data := D.toArray } : ByteArray) ++ { data := #[d] }) = ⟨(D ++ [d]).toArray⟩ := by
  rw [ByteArray.mk_append_mk]
theorem below_call_alloc {w w' : World} (hb : Below w.drew.heap.size w.drew w') (o : Obj) : Below w.heap.size w (w'.alloc o) := by
  have h1 : Below w.heap.size w w' := (Below.refl w.heap.size w).drew.trans hb
  exact h1.alloc h1.size o
theorem below_alloc_call {w w' : World} {o : Obj} (hb : Below (w.drew.alloc o).heap.size (w.drew.alloc o) w') : Below w.heap.size w w' :=
  ((Below.refl w.heap.size w).drew.alloc (Nat.le_refl _) o).trans (hb.mono (by simp))
set_option maxHeartbeats 4000000 in
set_option maxRecDepth 1000000 in
theorem digits_nat (u : Nat) : u < 9223372036854775808 → ∀ w : World, Calls Tryz.prog 32 #[.int .i64 u] w fun e w' => e = .returned (.string ⟨(Lib.decDigits u).toArray⟩) ∧ Below w.heap.size w w' := by
  induction u using Nat.strongRecOn with
  | _ u ih =>
    intro hu w
    by_cases h10 : u < 10
    · have hd : Lib.decDigits u = [UInt8.ofNat (48 + u)] := by rw [Lib.decDigits, dif_pos h10]
      rw [hd]
      clear hd
      obtain ⟨d8, hd8⟩ : ∃ d8, d8 = UInt8.ofNat (48 + u) := ⟨_, rfl⟩
      rw [← hd8]
      have hw1 : IntKind.i64.wrap (48 + (u : Int)) = 48 + (u : Int) := IntWalk.i64_in _ (by omega)
      have hw2 : IntKind.u8.wrap (48 + (u : Int)) = 48 + (u : Int) := wrap_u8 _ (by omega) (by omega)
      have hcv := fun W a hc => conv_one (48 + (u : Int)) (by omega) (by omega) W a hc
      have ht : (48 + (u : Int)).toNat = 48 + u := by omega
      rw [ht, ← hd8] at hcv
      clear ih ht hd8
      go_enter Tryz.func32, Tryz.ntmps32
      go_wp2
      go_ret
      exact ⟨rfl, (Below.refl _ _).alloc (Nat.le_refl _) _⟩
    · have hd : Lib.decDigits u = Lib.decDigits (u / 10) ++ [UInt8.ofNat (48 + u % 10)] := by rw [Lib.decDigits, dif_neg h10]
      obtain ⟨d8, hd8⟩ : ∃ d8, d8 = UInt8.ofNat (48 + u % 10) := ⟨_, rfl⟩
      rw [hd, ← hd8]
      clear hd
      have IH := fun W => ih (u / 10) (by omega) (by omega) W
      clear ih
      have hl := Lib.itoa_length_le ((u / 10 : Nat) : Int) (by omega) (by omega)
      have hli : Lib.itoa ((u / 10 : Nat) : Int) = Lib.decDigits (u / 10) := by unfold Lib.itoa; rw [if_neg (by omega)]; rfl
      rw [hli] at hl
      clear hli
      have hsz : (9223372036854775807 < (Lib.decDigits (u / 10)).length + 1) = False := eq_false (by omega)
      obtain ⟨D, hD⟩ : ∃ D, D = Lib.decDigits (u / 10) := ⟨_, rfl⟩
      rw [← hD] at IH hsz hl ⊢
      obtain ⟨m, hm⟩ : ∃ m, m = u % 10 := ⟨_, rfl⟩
      obtain ⟨q, hq⟩ : ∃ q, q = u / 10 := ⟨_, rfl⟩
      have hq1 : IntKind.i64.wrap ((u : Int) / 10) = (q : Int) := by rw [IntWalk.i64_in _ (by omega)]; omega
      have hm1 : (u : Int).tmod 10 = (m : Int) := by rw [Int.tmod_eq_emod_of_nonneg (by omega)]; omega
      rw [← hq] at IH
      rw [← hm] at hd8
      have hm9 : m < 10 := by omega
      have hw1 : IntKind.i64.wrap (48 + (m : Int)) = 48 + (m : Int) := IntWalk.i64_in _ (by omega)
      have hw2 : IntKind.u8.wrap (48 + (m : Int)) = 48 + (m : Int) := wrap_u8 _ (by omega) (by omega)
      have hcv := fun W a hc => conv_one (48 + (m : Int)) (by omega) (by omega) W a hc
      have ht : (48 + (m : Int)).toNat = 48 + m := by omega
      rw [ht, ← hd8] at hcv
      clear ht hd8 hD hm hq hm9 hl
      go_enter Tryz.func32, Tryz.ntmps32
      go_wp2_with fail
      go_region_with (go_at_call 32; refine (IH _).mono ?_; rintro e w' ⟨rfl, hb⟩; have hst := fun p hp => Below.cell hb (p := p) hp)
      all_goals
        go_wp2
        go_ret
        refine ⟨by rw [← cat_one]; rfl, ?_⟩
        first
          | exact below_call_alloc hb _
          | exact below_alloc_call hb
set_option maxHeartbeats 4000000 in
set_option maxRecDepth 1000000 in
theorem digits_walk (n : Int) (h0 : -9223372036854775808 < n) (h1 : n ≤ 9223372036854775807) (w : World) : Calls Tryz.prog 32 #[.int .i64 n] w fun e w' => e = .returned (.string ⟨(Lib.itoa n).toArray⟩) ∧ Below w.heap.size w w' := by
  by_cases hn : n < 0
  · have hi : Lib.itoa n = 45 :: Lib.decDigits n.natAbs := by unfold Lib.itoa; rw [if_pos hn]
    have hl := Lib.itoa_length_le n (by omega) h1
    rw [hi] at hl ⊢
    obtain ⟨u, hu⟩ : ∃ u, u = n.natAbs := ⟨_, rfl⟩
    rw [← hu] at hl ⊢
    have hng : IntKind.i64.wrap (-n) = (u : Int) := by rw [IntWalk.i64_in _ (by omega)]; omega
    have hul : u < 9223372036854775808 := by omega
    obtain ⟨D, hD⟩ : ∃ D, D = Lib.decDigits u := ⟨_, rfl⟩
    have IH := fun W => digits_nat u hul W
    rw [← hD] at IH hl ⊢
    simp only [List.length_cons] at hl
    have hsz : (9223372036854775807 < 1 + D.length) = False := eq_false (by omega)
    have hd : decide (n < 0) = true := decide_eq_true hn
    clear hi hu hul hD hl
    go_enter Tryz.func32, Tryz.ntmps32
    go_wp2_with (go_at_call 32; refine (IH _).mono ?_)
    rintro e W1 ⟨rfl, hb⟩
    go_wp2
    go_ret
    exact ⟨rfl, hb⟩
  · obtain ⟨u, rfl⟩ : ∃ u : Nat, n = u := ⟨n.toNat, by omega⟩
    have hi : Lib.itoa (u : Int) = Lib.decDigits u := by unfold Lib.itoa; rw [if_neg hn]; rfl
    rw [hi]
    exact digits_nat u (by omega) w
end Go.Proofs.YtaipemiaphpojaaGreatDoor
