/- strconv.ParseUint(s, 16, 8) of two bytes. -/
import Derived.Test.YtaipemiaphpojaaGreatDoorLeaf
import Derived.Test.YtaipemiaphpojaaGreatDoorShelf
import Derived.Test.YtaipemiaphpojaaGreatDoorBld
import Derived.Lib.ConvBytes
import Derived.Lib.ParseIntBMem
import Derived.Laws.Strings3
import Derived.Laws.Closers25
import Derived.Laws.Closers25b
import Derived.WalkKit
import Derived.BigCall
import Derived.BigGuard
namespace Go.Proofs.YtaipemiaphpojaaGreatDoor
open Go Go.Proofs Go.RowKit
def hexU (acc : Nat) : List UInt8 → Option Nat
  | [] => some acc
  | c :: r => if hexP c < 0 then none else hexU (acc * 16 + (hexP c).toNat) r
theorem low_fin : ∀ n : Fin 256, (97 ≤ bits .or .u8 (n.1 : Int) 32 ∧ bits .or .u8 (n.1 : Int) 32 ≤ 102 ∧ hexP (UInt8.ofNat n.1) = bits .or .u8 (n.1 : Int) 32 - 87 ∧ ¬ (48 ≤ n.1 ∧ n.1 ≤ 57) ∧ n.1 ≠ 95) ∨ (48 ≤ n.1 ∧ n.1 ≤ 57 ∧ hexP (UInt8.ofNat n.1) = n.1 - 48) ∨ (¬ (48 ≤ n.1 ∧ n.1 ≤ 57) ∧ hexP (UInt8.ofNat n.1) = -1 ∧ (bits .or .u8 (n.1 : Int) 32 < 97 ∨ 102 < bits .or .u8 (n.1 : Int) 32)) := by decide +kernel
theorem low_cases (c : UInt8) : (97 ≤ bits .or .u8 (c.toNat : Int) 32 ∧ bits .or .u8 (c.toNat : Int) 32 ≤ 102 ∧ hexP c = bits .or .u8 (c.toNat : Int) 32 - 87 ∧ ¬ (48 ≤ c.toNat ∧ c.toNat ≤ 57) ∧ c.toNat ≠ 95) ∨ (48 ≤ c.toNat ∧ c.toNat ≤ 57 ∧ hexP c = c.toNat - 48) ∨ (¬ (48 ≤ c.toNat ∧ c.toNat ≤ 57) ∧ hexP c = -1 ∧ (bits .or .u8 (c.toNat : Int) 32 < 97 ∨ 102 < bits .or .u8 (c.toNat : Int) 32)) := by
  have h := low_fin ⟨c.toNat, c.toNat_lt⟩
  dsimp only at h
  rw [UInt8.ofNat_toNat] at h
  exact h
/-- The inner ParseUint's answer. -/
def hexE : Option Nat → Value
  | some v => .tuple #[.int .u64 (v : Int), .nilIface]
  | none => .tuple #[.int .u64 0, .iface 243 (.int .i64 2)]
set_option maxHeartbeats 32000000 in
set_option maxRecDepth 1000000 in
theorem hexu_inner (t : ByteArray) (h2 : t.size = 2) (w : World) :
    Calls Tryz.prog 110 #[.string t, .int .i64 16, .int .i64 8] w fun e w' => e = .returned (hexE (hexU 0 t.data.toList)) ∧ w' = Lib.bytesWorld w 5 t := by
  have hemp : t.toList.isEmpty = false := by
    rw [← decide_eq_emptyBytes]
    exact decide_eq_false (fun h => by rw [h] at h2; cases h2)
  have hcv := Lib.run_convert_string_bytes (P := Tryz.prog) w 9 70 5 t (u := .string) Tryz.underlying9 Tryz.underlying70 Tryz.underlying5
  have hB : ∀ j, j < t.size → (Lib.bytesWorld w 5 t).cell? ⟨w.heap.size, j, none⟩ = some (.int .u8 (t.data.toList.getD j 0).toNat) := fun j hj => Lib.bytesWorld_cell w 5 t j hj
  obtain ⟨W1, hW1⟩ : ∃ W1, W1 = Lib.bytesWorld w 5 t := ⟨_, rfl⟩
  rw [← hW1] at hcv hB ⊢
  clear hW1
  obtain ⟨bs, hL⟩ : ∃ bs, bs = t.data.toList := ⟨_, rfl⟩
  have hLn : bs.length = t.size := by rw [hL, Lib.size_eq]
  rw [← hL] at hB ⊢
  clear hL
  have hmv : IntKind.u64.wrap (IntKind.u64.wrap 256 - 1) = 255 := by
    rw [IntKind.wrap_u64, IntKind.wrap_u64]
    decide
  go_enter Tryz.func110, Tryz.ntmps110
  go_wp2
  go_loop [12, 13, 101] (fun vu vn vi => ∃ (k acc : Nat) (a : Int), vu = .bool false ∧ vn = .int .u64 a ∧ vi = .int .i64 k ∧ k ≤ t.size ∧ Hid (a = (acc : Int) ∧ acc < 16 ^ k ∧ hexU 0 bs = hexU acc (bs.drop k)))
    (fun _ _ vi => t.size - (intOf vi).toNat)
  case atStart => exact ⟨0, 0, 0, rfl, rfl, rfl, by omega, rfl, by decide, rfl⟩
  case round =>
    obtain ⟨k, acc, a, rfl, rfl, rfl, hk, hh⟩ := hrel
    obtain ⟨ha, hacc, hdec⟩ := hh.out
    clear hh
    by_cases hkn : k < t.size
    · have hacc' : acc ≤ 15 := by
        have : k = 0 ∨ k = 1 := by omega
        rcases this with rfl | rfl <;> omega
      have hnext : ∀ d : Nat, d < 16 → acc * 16 + d < 16 ^ (k + 1) := fun d hd => by rw [Nat.pow_succ]; omega
      have a0 : 0 ≤ a := by omega
      have a1 : a ≤ 15 := by omega
      have hc := hB k hkn
      have hdrop : bs.drop k = bs[k]'(by omega) :: bs.drop (k + 1) := List.drop_eq_getElem_cons (by omega)
      have hget : bs.getD k 0 = bs[k]'(by omega) := by simp [List.getD, List.getElem?_eq_getElem (show k < bs.length by omega)]
      rw [hdrop] at hdec
      rw [hget] at hc
      generalize bs[k]'(by omega) = c at hc hdec
      have hc256 : c.toNat < 256 := c.toNat_lt
      clear hB hdrop hget
      rcases low_cases c with ⟨m0, m1, hx, hnd, h95⟩ | ⟨hd0, hd1, hx⟩ | ⟨hnd, hx, hm⟩
      · have hne95 : ¬ (c.toNat : Int) = 95 := by omega
        generalize hm : bits .or .u8 (c.toNat : Int) 32 = m at m0 m1 hx
        have hF : hexU acc (c :: bs.drop (k + 1)) = hexU (acc * 16 + (m - 87).toNat) (bs.drop (k + 1)) := by rw [hexU, hx, if_neg (by omega)]
        have HN : Hid (a * 16 + (m - 87) = ((acc * 16 + (m - 87).toNat : Nat) : Int) ∧ acc * 16 + (m - 87).toNat < 16 ^ (k + 1) ∧ hexU 0 bs = hexU (acc * 16 + (m - 87).toNat) (bs.drop (k + 1))) := Lib.hid ⟨by omega, hnext _ (by omega), hdec.trans hF⟩
        have hw1 : IntKind.u8.wrap (m - 97) = m - 97 := IntWalk.u8_in _ (by omega)
        clear hacc hF hdec ha hnext hx
        go_wp2_with (go_at_call 125; refine (Tryz.internal_strconv_lower _ _).mono ?_; rintro e w' ⟨rfl, rfl⟩)
        all_goals exact ⟨⟨k + 1, acc * 16 + (m - 87).toNat, a * 16 + (m - 87), rfl, congrArg (Value.int .u64) (by omega), by go_num, by omega, HN⟩, by simp [intOf]; omega⟩
      · have hF : hexU acc (c :: bs.drop (k + 1)) = hexU (acc * 16 + (c.toNat - 48)) (bs.drop (k + 1)) := by rw [hexU, hx, if_neg (by omega)]; congr 1; omega
        have HN : Hid (a * 16 + ((c.toNat : Int) - 48) = ((acc * 16 + (c.toNat - 48) : Nat) : Int) ∧ acc * 16 + (c.toNat - 48) < 16 ^ (k + 1) ∧ hexU 0 bs = hexU (acc * 16 + (c.toNat - 48)) (bs.drop (k + 1))) := Lib.hid ⟨by omega, hnext _ (by omega), hdec.trans hF⟩
        clear hacc hF hdec ha hnext hx
        go_wp2
        refine ⟨⟨k + 1, acc * 16 + (c.toNat - 48), a * 16 + ((c.toNat : Int) - 48), rfl, (by first | rfl | (congr 1; omega)), (by first | rfl | (congr 1; omega)), by omega, HN⟩, by simp [intOf]; omega⟩
      · have hF : hexU acc (c :: bs.drop (k + 1)) = none := by rw [hexU, hx, if_pos (by omega)]
        rw [hF] at hdec
        clear hacc hF ha hnext hx
        go_wp2_with (go_at_call 125; refine (Tryz.internal_strconv_lower _ _).mono ?_; rintro e w' ⟨rfl, rfl⟩)
        all_goals first
          | (exfalso; omega)
          | (go_ret2; first | exact ⟨rfl, rfl⟩ | exact ⟨by rw [hdec]; rfl, rfl⟩)
    · -- THE BYTES ARE AT AN END
      have hkk : k = t.size := by omega
      subst hkk
      have hF : hexU acc (bs.drop t.size) = some acc := by rw [List.drop_eq_nil_of_le (by omega)]; rfl
      rw [hF] at hdec
      subst ha
      clear hacc hF
      go_wp2
      go_ret2
      exact ⟨rfl, rfl⟩
end Go.Proofs.YtaipemiaphpojaaGreatDoor
