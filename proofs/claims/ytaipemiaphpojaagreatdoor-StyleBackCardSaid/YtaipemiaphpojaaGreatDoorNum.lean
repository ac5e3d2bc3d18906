/- Numerals: what ParseInt tells of what FormatInt writes. No program. -/
import Derived.Test.YtaipemiaphpojaaGreatDoorPlain
import Derived.Lib.ParseIntBTie
import Derived.Lib.ItoaMem
namespace Go.Proofs.YtaipemiaphpojaaGreatDoor
open Go Go.Proofs Go.RowKit
def isD (c : UInt8) : Bool := decide (48 ≤ c.toNat ∧ c.toNat ≤ 57)
def valD (l : List UInt8) : Nat := l.foldl (fun a c => a * 10 + (c.toNat - 48)) 0
theorem valD_snoc (l : List UInt8) (c : UInt8) : valD (l ++ [c]) = valD l * 10 + (c.toNat - 48) := by simp [valD]
theorem dec_small {u : Nat} (h : u < 10) : Lib.decDigits u = [UInt8.ofNat (48 + u)] := Lib.decDigits_one h
theorem dec_big {u : Nat} (h : ¬ u < 10) : Lib.decDigits u = Lib.decDigits (u / 10) ++ [UInt8.ofNat (48 + u % 10)] := by
  rw [Lib.decDigits, dif_neg h]
theorem ofNat_d {d : Nat} (h : d < 10) : (UInt8.ofNat (48 + d)).toNat = 48 + d := by
  rw [UInt8.toNat_ofNat', Nat.mod_eq_of_lt (by omega)]
theorem dec_all : ∀ (n u : Nat), u ≤ n → ∀ c ∈ Lib.decDigits u, isD c = true
  | 0, u, hn, c, hc => by
    rw [dec_small (by omega)] at hc
    rw [List.mem_singleton.1 hc]
    simp only [isD, ofNat_d (show u < 10 by omega)]; simp; omega
  | n + 1, u, hn, c, hc => by
    by_cases h : u < 10
    · rw [dec_small h] at hc
      rw [List.mem_singleton.1 hc]
      simp only [isD, ofNat_d h]; simp; omega
    · rw [dec_big h, List.mem_append] at hc
      rcases hc with hc | hc
      · exact dec_all n (u / 10) (by omega) c hc
      · rw [List.mem_singleton.1 hc]
        simp only [isD, ofNat_d (show u % 10 < 10 by omega)]; simp; omega
theorem dec_val : ∀ (n u : Nat), u ≤ n → valD (Lib.decDigits u) = u
  | 0, u, hn => by rw [dec_small (by omega)]; obtain rfl : u = 0 := by omega
                   rfl
  | n + 1, u, hn => by
    by_cases h : u < 10
    · rw [dec_small h]; show 0 * 10 + ((UInt8.ofNat (48 + u)).toNat - 48) = u; rw [ofNat_d h]; omega
    · rw [dec_big h, valD_snoc, dec_val n (u / 10) (by omega), ofNat_d (by omega)]; omega
theorem dec_head : ∀ (n u : Nat), u ≤ n → u ≠ 0 → ∃ c r, Lib.decDigits u = c :: r ∧ c ≠ 48
  | 0, u, hn, h0 => absurd (show u = 0 by omega) h0
  | n + 1, u, hn, h0 => by
    by_cases h : u < 10
    · rw [dec_small h]
      refine ⟨_, _, rfl, fun e => ?_⟩
      have := congrArg UInt8.toNat e
      rw [ofNat_d h] at this
      exact h0 (by simpa using this)
    · obtain ⟨c, r, e, hc⟩ := dec_head n (u / 10) (by omega) (by omega)
      rw [dec_big h, e]
      exact ⟨c, _, rfl, hc⟩
theorem val_pos (l : List UInt8) : ∀ (a : Nat), 0 < a → 0 < l.foldl (fun a c => a * 10 + (c.toNat - 48)) a := by
  induction l with
  | nil => intro a h; exact h
  | cons c l ih => intro a h; exact ih (a * 10 + (c.toNat - 48)) (by omega)
theorem ofNat_val {c : UInt8} (h : isD c = true) : UInt8.ofNat (48 + (c.toNat - 48)) = c := by
  simp only [isD, decide_eq_true_eq] at h
  apply UInt8.toNat_inj.1
  rw [UInt8.toNat_ofNat', Nat.mod_eq_of_lt (by omega)]
  omega
theorem val_dec : ∀ (n : Nat) (l : List UInt8), l.length = n → (∀ c ∈ l, isD c = true) → (∃ c r, l = c :: r ∧ (c ≠ 48 ∨ r = [])) → Lib.decDigits (valD l) = l
  | 0, l, hn, _, ⟨c, r, e, _⟩ => by rw [e] at hn; simp at hn
  | n + 1, l, hn, ha, ⟨c, r, e, hc⟩ => by
    rcases List.eq_nil_or_concat l with h | ⟨l', d, h⟩
    · rw [h] at hn; simp at hn
    · rw [List.concat_eq_append] at h
      subst h
      have hd : isD d = true := ha d (by simp)
      have hdn := hd
      simp only [isD, decide_eq_true_eq] at hdn
      rw [valD_snoc]
      cases l' with
      | nil =>
        show Lib.decDigits (0 * 10 + (d.toNat - 48)) = [d]
        rw [dec_small (by omega)]
        have : 0 * 10 + (d.toNat - 48) = d.toNat - 48 := by omega
        rw [this, ofNat_val hd]
      | cons b l'' =>
        simp only [List.cons_append, List.cons.injEq] at e
        obtain ⟨rfl, e2⟩ := e
        have hb : b ≠ 48 := by
          rcases hc with hc | hc
          · exact hc
          · rw [hc] at e2; simp at e2
        have hbd : isD b = true := ha b (by simp)
        have hv : 0 < valD (b :: l'') := by
          show 0 < l''.foldl _ (0 * 10 + (b.toNat - 48))
          apply val_pos
          simp only [isD, decide_eq_true_eq] at hbd
          have : b.toNat ≠ 48 := fun e => hb (UInt8.toNat_inj.1 e)
          omega
        have ih := val_dec n (b :: l'') (by simp at hn ⊢; omega) (fun c hc => ha c (List.mem_append_left _ hc)) ⟨b, l'', rfl, .inl hb⟩
        generalize valD (b :: l'') = v at ih hv ⊢
        rw [dec_big (by omega), show (v * 10 + (d.toNat - 48)) / 10 = v by omega, show (v * 10 + (d.toNat - 48)) % 10 = d.toNat - 48 by omega, ih, ofNat_val hd]
theorem itoa_nat (u : Nat) : Lib.itoa (u : Int) = Lib.decDigits u := Lib.itoa_nonneg u
theorem itoa_minus (u : Nat) (h : 1 ≤ u) : Lib.itoa (-(u : Int)) = 45 :: Lib.decDigits u := Lib.itoa_neg u h
theorem parseUintM_snoc (M : Nat) (d : UInt8) : ∀ (l : List UInt8) (a : Nat), Lib.parseUintM M a (l ++ [d]) = match Lib.parseUintM M a l with
    | .ok v => Lib.parseUintM M v [d]
    | e => e
  | [], a => rfl
  | c :: l, a => by
    rw [List.cons_append, Lib.parseUintM.eq_2, Lib.parseUintM.eq_2]
    split
    · split
      · rfl
      · split
        · rfl
        · exact parseUintM_snoc M d l _
    · rfl
theorem parseUintM_dec (M : Nat) (hM : M ≤ 18446744073709551615) : ∀ (n u : Nat), u ≤ n → u ≤ M → Lib.parseUintM M 0 (Lib.decDigits u) = .ok u
  | n, u, hn, hu => by
    by_cases h : u < 10
    · rw [dec_small h, Lib.parseUintM.eq_2, ofNat_d h, if_pos (by omega), if_neg (by omega), if_neg (by omega), Lib.parseUintM.eq_1]
      congr 1; omega
    · cases n with
      | zero => omega
      | succ n =>
        rw [dec_big h, parseUintM_snoc, parseUintM_dec M hM n (u / 10) (by omega) (by omega)]
        show Lib.parseUintM M (u / 10) [_] = _
        rw [Lib.parseUintM.eq_2, ofNat_d (by omega), if_pos (by omega), if_neg (by omega), if_neg (by omega), Lib.parseUintM.eq_1]
        congr 1; omega
theorem dec_ne (u : Nat) : Lib.decDigits u ≠ [] := by
  by_cases h : u < 10
  · rw [dec_small h]; simp
  · rw [dec_big h]; simp
theorem parse_itoa (n : Int) (h0 : -9223372036854775808 ≤ n) (h1 : n ≤ 9223372036854775807) : Lib.parseIntB 64 (Lib.itoa n) = .ok n := by
  rcases Int.lt_or_le n 0 with h | h
  · obtain ⟨u, rfl⟩ : ∃ u : Nat, n = -(u : Int) := ⟨n.natAbs, by omega⟩
    rw [itoa_minus u (by omega)]
    have hp : Lib.parseUintB 64 (Lib.decDigits u) = .ok u := by
      unfold Lib.parseUintB
      rw [if_neg (dec_ne u)]
      exact parseUintM_dec _ (by decide) u u (Nat.le_refl _) (by simp; omega)
    rw [Lib.parseIntB_minus, hp]
    show (if 2 ^ 63 < u then _ else _) = _
    rw [if_neg (by omega)]
  · obtain ⟨u, rfl⟩ : ∃ u : Nat, n = (u : Int) := ⟨n.natAbs, by omega⟩
    rw [itoa_nat u]
    have hp : Lib.parseUintB 64 (Lib.decDigits u) = .ok u := by
      unfold Lib.parseUintB
      rw [if_neg (dec_ne u)]
      exact parseUintM_dec _ (by decide) u u (Nat.le_refl _) (by simp; omega)
    have hall := dec_all u u (Nat.le_refl _)
    have hne := dec_ne u
    revert hp hall hne
    generalize Lib.decDigits u = l
    intro hp hall hne
    cases l with
    | nil => exact absurd rfl hne
    | cons c r =>
      have hc := hall c (by simp)
      simp only [isD, decide_eq_true_eq] at hc
      rw [Lib.parseIntB_plain 64 c r (by omega) (by omega), hp]
      show (if 2 ^ 63 ≤ u then _ else _) = _
      rw [if_neg (by omega)]
theorem itoa_inj {m n : Int} (h0 : -9223372036854775808 ≤ n) (h1 : n ≤ 9223372036854775807) (g0 : -9223372036854775808 ≤ m) (g1 : m ≤ 9223372036854775807) (h : Lib.itoa m = Lib.itoa n) : m = n := by
  have a := parse_itoa m g0 g1
  rw [h, parse_itoa n h0 h1] at a
  injection a with a; exact a.symm
theorem numP_itoa {lo hi n : Int} (hlo : -9223372036854775808 ≤ lo) (hhi : hi ≤ 9223372036854775807) (h0 : lo ≤ n) (h1 : n ≤ hi) : numP lo hi (Lib.itoa n) = some n := by
  cases h : numP lo hi (Lib.itoa n) with
  | none =>
    unfold numP at h
    split at h
    · cases h
    · rename_i hx; exact absurd ⟨n, h0, h1, rfl⟩ hx
  | some m =>
    obtain ⟨a, b, c⟩ := numP_some h
    rw [itoa_inj (by omega) (by omega) (by omega) (by omega) c]
/-- strconv's way: what ParseInt tells, held against what FormatInt writes. -/
theorem numP_parse {lo hi n : Int} {t : List UInt8} (hlo : -9223372036854775808 ≤ lo) (hhi : hi ≤ 9223372036854775807) (h : Lib.parseIntB 64 t = .ok n) : numP lo hi t = if lo ≤ n ∧ n ≤ hi ∧ Lib.itoa n = t then some n else none := by
  split
  · rename_i hx; obtain ⟨a, b, rfl⟩ := hx; exact numP_itoa hlo hhi a b
  · rename_i hx
    refine numP_none fun m a b c => hx ?_
    rw [← c, parse_itoa m (by omega) (by omega)] at h
    injection h with h; subst h; exact ⟨a, b, c⟩
theorem numP_bad {lo hi : Int} {t : List UInt8} (hlo : -9223372036854775808 ≤ lo) (hhi : hi ≤ 9223372036854775807) (h : ∀ n, Lib.parseIntB 64 t ≠ .ok n) : numP lo hi t = none :=
  numP_none fun m a b c => h m (by rw [← c]; exact parse_itoa m (by omega) (by omega))
end Go.Proofs.YtaipemiaphpojaaGreatDoor
