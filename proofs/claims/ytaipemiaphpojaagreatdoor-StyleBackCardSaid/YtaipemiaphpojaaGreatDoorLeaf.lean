/- Parse's leaves: blanks; hex digits. -/
import Derived.Test.YtaipemiaphpojaaGreatDoorKeep
namespace Go.Proofs.YtaipemiaphpojaaGreatDoor
open Go Go.Proofs Go.RowKit
def blk (c : UInt8) : Bool := c == 32 || c == 9
def hexP (c : UInt8) : Int :=
  if 48 ≤ c.toNat ∧ c.toNat ≤ 57 then c.toNat - 48 else if 97 ≤ c.toNat ∧ c.toNat ≤ 102 then c.toNat - 87 else if 65 ≤ c.toNat ∧ c.toNat ≤ 70 then c.toNat - 55 else -1
theorem blk_iff (c : UInt8) : blk c = true ↔ c.toNat = 32 ∨ c.toNat = 9 := by
  simp [blk, ← UInt8.toNat_inj]
set_option maxRecDepth 100000 in
theorem isBlank_walk (c : UInt8) (w : World) : Calls Tryz.prog 61 #[.int .u8 c.toNat] w fun e w' => e = .returned (.bool (blk c)) ∧ w' = w := by
  have hb := blk_iff c
  have hc : blk c = decide (c.toNat = 32 ∨ c.toNat = 9) := by
    rcases h : blk c with _ | _ <;> simp_all
  rw [hc]
  generalize c.toNat = n
  go_enter Tryz.func61, Tryz.ntmps61
  go_wp2
  · go_ret
    exact ⟨by simp_all; omega, rfl⟩
  · go_ret
    refine ⟨congrArg (fun z => Ending.returned (Value.bool z)) ?_, rfl⟩
    rw [Bool.eq_iff_iff]
    simp
    omega
set_option maxRecDepth 100000 in
theorem blank_walk (c : UInt8) (w : World) : Calls Tryz.prog 66 #[.int .u8 c.toNat] w fun e w' => e = .returned (.bool (blk c)) ∧ w' = w := by
  have hb := blk_iff c
  have hc : blk c = decide (c.toNat = 32 ∨ c.toNat = 9) := by
    rcases h : blk c with _ | _ <;> simp_all
  rw [hc]
  generalize c.toNat = n
  go_enter Tryz.func66, Tryz.ntmps66
  go_wp2
  · go_ret
    exact ⟨by simp_all; omega, rfl⟩
  · go_ret
    refine ⟨congrArg (fun z => Ending.returned (Value.bool z)) ?_, rfl⟩
    rw [Bool.eq_iff_iff]
    simp
    omega
set_option maxRecDepth 100000 in
theorem hex_walk (c : UInt8) (w : World) : Calls Tryz.prog 91 #[.int .u8 c.toNat] w fun e w' => e = .returned (.int .i64 (hexP c)) ∧ w' = w := by
  have hn : c.toNat < 256 := c.toNat_lt
  unfold hexP
  generalize c.toNat = n at *
  go_enter Tryz.func91, Tryz.ntmps91
  go_wp2
  all_goals
    go_ret
    exact ⟨congrArg (fun z => Ending.returned (Value.int IntKind.i64 z)) (by omega), rfl⟩
end Go.Proofs.YtaipemiaphpojaaGreatDoor
