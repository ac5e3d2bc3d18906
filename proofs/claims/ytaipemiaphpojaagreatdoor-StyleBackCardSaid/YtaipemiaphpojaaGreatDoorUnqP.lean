/- The plain law of a quoted text, byte by byte. No program. -/
import Derived.Test.YtaipemiaphpojaaGreatDoorPlain
namespace Go.Proofs.YtaipemiaphpojaaGreatDoor
open Go Go.Proofs Go.RowKit
/-- What the loop holds. -/
def UnqAt (s : ByteArray) (i0 i : Nat) (b : List UInt8) : Prop := unq (s.data.toList.drop i0) = (unq (s.data.toList.drop i)).map fun p => (b ++ p.1, p.2)
theorem unqAt_start (s : ByteArray) (i : Nat) : UnqAt s i i [] := by simp [UnqAt]
theorem drop_at (s : ByteArray) (i : Nat) (h : i < s.size) : s.data.toList.drop i = s[i] :: s.data.toList.drop (i + 1) := by
  rw [List.drop_eq_getElem_cons (by simpa using h)]
  rfl
theorem unq_end (s : ByteArray) (i0 k : Nat) (b : List UInt8) (hu : UnqAt s i0 k b) (hk : ¬ k < s.size) : unq (s.data.toList.drop i0) = none := by
  rw [hu, List.drop_eq_nil_of_le (by simpa using Nat.le_of_not_lt hk)]
  rfl
theorem unq_plain (s : ByteArray) (i0 k : Nat) (b : List UInt8) (hu : UnqAt s i0 k b) (hk : k < s.size) (h1 : s[k] ≠ 34) (h2 : s[k] ≠ 92) : UnqAt s i0 (k + 1) (b ++ [s[k]]) := by
  unfold UnqAt at hu ⊢
  rw [hu, drop_at s k hk, unq.eq_def (s[k] :: _)]
  simp only [if_neg h1, if_neg h2]
  rw [Option.map_map]
  congr 1
  funext p
  simp
theorem unq_close (s : ByteArray) (i0 k : Nat) (b : List UInt8) (hu : UnqAt s i0 k b) (hk : k < s.size) (h1 : s[k] = 34) : unq (s.data.toList.drop i0) = if (s.data.toList.drop (k + 1)).head?.all blk then some (b, s.data.toList.drop (k + 1)) else none := by
  rw [hu, drop_at s k hk, unq.eq_def (s[k] :: _)]
  simp only [if_pos h1]
  split <;> simp
theorem unq_esc (s : ByteArray) (i0 k : Nat) (b : List UInt8) (hu : UnqAt s i0 k b) (hk : k + 1 < s.size) (h2 : s[k] = 92) (z : UInt8) (hz : (s[k + 1] = 34 ∨ s[k + 1] = 92) ∧ z = s[k + 1] ∨ s[k + 1] = 110 ∧ z = 10 ∨ s[k + 1] = 116 ∧ z = 9) : UnqAt s i0 (k + 2) (b ++ [z]) := by
  unfold UnqAt at hu ⊢
  rw [hu, drop_at s k (by omega), drop_at s (k + 1) hk, unq.eq_def (s[k] :: _)]
  simp only [if_neg (show ¬ s[k] = 34 by rw [h2]; decide), if_pos h2]
  have e : ∀ z : UInt8, Option.map (fun p : List UInt8 × List UInt8 => (b ++ p.1, p.2)) (Option.map (fun p : List UInt8 × List UInt8 => (z :: p.1, p.2)) (unq (s.data.toList.drop (k + 2)))) = Option.map (fun p : List UInt8 × List UInt8 => (b ++ [z] ++ p.1, p.2)) (unq (s.data.toList.drop (k + 2))) := fun z => by
    rw [Option.map_map]
    congr 1
    funext p
    simp
  rcases hz with ⟨h, rfl⟩ | ⟨h, rfl⟩ | ⟨h, rfl⟩
  · simp only [if_pos h]; exact e _
  · simp only [h]; exact e _
  · simp only [h]; exact e _
theorem unq_esc_end (s : ByteArray) (i0 k : Nat) (b : List UInt8) (hu : UnqAt s i0 k b) (hk : k < s.size) (h2 : s[k] = 92) (he : ¬ k + 1 < s.size) : unq (s.data.toList.drop i0) = none := by
  have hd : s.data.toList.drop (k + 1) = [] := List.drop_eq_nil_of_le (by rw [Array.length_toList]; exact Nat.le_of_not_lt he)
  rw [hu, drop_at s k hk, hd, unq.eq_def (s[k] :: _), h2]
  rfl
theorem unq_esc_bad (s : ByteArray) (i0 k : Nat) (b : List UInt8) (hu : UnqAt s i0 k b) (hk : k + 1 < s.size) (h2 : s[k] = 92) (g1 : s[k + 1] ≠ 34) (g2 : s[k + 1] ≠ 92) (g3 : s[k + 1] ≠ 110) (g4 : s[k + 1] ≠ 116) (g5 : s[k + 1] ≠ 120) : unq (s.data.toList.drop i0) = none := by
  rw [hu, drop_at s k (by omega), drop_at s (k + 1) hk, unq.eq_def (s[k] :: _)]
  simp only [if_neg (show ¬ s[k] = 34 by rw [h2]; decide), if_pos h2, g1, g2, g3, g4, g5, or_self, if_false]
  rfl
theorem unq_hex_short (s : ByteArray) (i0 k : Nat) (b : List UInt8) (hu : UnqAt s i0 k b) (hk : k + 1 < s.size) (h2 : s[k] = 92) (g : s[k + 1] = 120) (hs : ¬ k + 3 < s.size) : unq (s.data.toList.drop i0) = none := by
  rw [hu, drop_at s k (by omega), drop_at s (k + 1) hk, unq.eq_def (s[k] :: _), h2, g]
  have hl : (s.data.toList.drop (k + 1 + 1)).length ≤ 1 := by rw [List.length_drop, Array.length_toList]; show s.size - (k + 1 + 1) ≤ 1; omega
  match s.data.toList.drop (k + 1 + 1), hl with
  | [], _ => rfl
  | [_], _ => rfl
  | _ :: _ :: _, h => simp at h
theorem unq_hex_any (s : ByteArray) (i0 k : Nat) (b : List UInt8) (hu : UnqAt s i0 k b) (hk : k + 3 < s.size) (h2 : s[k] = 92) (g : s[k + 1] = 120) : unq (s.data.toList.drop i0) = if hexP s[k + 2] < 0 ∨ hexP s[k + 3] < 0 then none else (unq (s.data.toList.drop (k + 4))).map fun p => (b ++ [UInt8.ofNat (16 * hexP s[k + 2] + hexP s[k + 3]).toNat] ++ p.1, p.2) := by
  rw [hu, drop_at s k (by omega), drop_at s (k + 1) (by omega), drop_at s (k + 1 + 1) (by omega), drop_at s (k + 1 + 1 + 1) (by omega), unq.eq_def (s[k] :: _), h2, g]
  show Option.map _ (if hexP s[k + 2] < 0 ∨ hexP s[k + 3] < 0 then none else _) = _
  split
  · rfl
  · rw [Option.map_map]
    congr 1
    funext p
    simp
theorem u8_beq (c : UInt8) (n : Nat) (hn : n < 256 := by omega) : ((c.toNat : Int) == (n : Int)) = decide (c = UInt8.ofNat n) := by
  rw [Bool.eq_iff_iff]
  simp only [beq_iff_eq, decide_eq_true_eq, ← UInt8.toNat_inj, UInt8.toNat_ofNat', Nat.mod_eq_of_lt hn]
  omega
end Go.Proofs.YtaipemiaphpojaaGreatDoor
