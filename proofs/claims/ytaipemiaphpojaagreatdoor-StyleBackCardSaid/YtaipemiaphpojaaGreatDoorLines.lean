/- Lines: what strings.Split hands back; how long they are. No program. -/
import Derived.Test.YtaipemiaphpojaaGreatDoorBackP
import Derived.Lib.Split
import Derived.Lib.SplitLaws
namespace Go.Proofs.YtaipemiaphpojaaGreatDoor
open Go Go.Proofs Go.RowKit
theorem index10 : ∀ l : List UInt8, (Lib.index l [10] = -1 ∧ linesP l = [l]) ∨ ∃ u v, l = u ++ 10 :: v ∧ Lib.index l [10] = (u.length : Int) ∧ linesP l = u :: linesP v
  | [] => .inl ⟨rfl, rfl⟩
  | c :: r => by
    by_cases hc : c = 10
    · subst hc
      exact .inr ⟨[], r, rfl, rfl, rfl⟩
    · have hp : ([10] : List UInt8).isPrefixOf (c :: r) = false := by
        show ((10 : UInt8) == c && true) = false
        rw [Bool.and_true, beq_eq_false_iff_ne]; exact fun h => hc h.symm
      have hix : Lib.index (c :: r) [10] = if Lib.index r [10] == -1 then -1 else Lib.index r [10] + 1 := by
        show (if ([10] : List UInt8).isPrefixOf (c :: r) = true then _ else _) = _
        rw [hp]; rfl
      rcases index10 r with ⟨h1, h2⟩ | ⟨u, v, rfl, h2, h3⟩
      · refine .inl ⟨by rw [hix, h1]; rfl, ?_⟩
        rw [linesP.eq_2, if_neg hc, h2]
      · refine .inr ⟨c :: u, v, rfl, ?_, ?_⟩
        · rw [hix, h2, if_neg (by rw [beq_iff_eq]; omega)]; simp
        · rw [linesP.eq_2, if_neg hc, h3]
theorem splitK_lines : ∀ (k : Nat) (l : List UInt8), Lib.count l [10] = k → Lib.splitK [10] 0 k l = linesP l
  | 0, l, h => by
    rcases index10 l with ⟨h1, h2⟩ | ⟨u, v, rfl, h2, h3⟩
    · rw [h2]; rfl
    · rw [Lib.count_hit (by simp) h2] at h; omega
  | k + 1, l, h => by
    rcases index10 l with ⟨h1, h2⟩ | ⟨u, v, rfl, h2, h3⟩
    · rw [Lib.count_miss h1] at h; omega
    · rw [Lib.count_hit (by simp) h2] at h
      have e1 : (u ++ 10 :: v).drop (u.length + ([10] : List UInt8).length) = v := by
        rw [← List.drop_drop, List.drop_left]; rfl
      rw [e1] at h
      show (if Lib.index (u ++ 10 :: v) [10] == -1 then _ else _) = _
      rw [if_neg (by rw [h2, beq_iff_eq]; omega), h2, h3]
      congr 1
      · rw [show ((u.length : Int)).toNat + 0 = u.length by omega, List.take_left]
      · rw [show ((u.length : Int)).toNat + ([10] : List UInt8).length = u.length + ([10] : List UInt8).length by omega, e1]
        exact splitK_lines k v (by omega)
theorem lines_total : ∀ t : List UInt8, sumL (linesP t) + (linesP t).length = t.length + 1
  | [] => rfl
  | c :: r => by
    have ih := lines_total r
    rw [linesP.eq_2]
    split
    · rw [sumL_cons]; simp only [List.length_nil, List.length_cons]; omega
    · split
      · rename_i h; rw [h] at ih; simp [sumL] at ih
      · rename_i h t ht
        rw [ht, sumL_cons] at ih
        rw [sumL_cons]; simp only [List.length_cons] at ih ⊢; omega
/-- The pieces of strings.Split. -/
theorem split_pieces (s : ByteArray) : (Lib.splitB ⟨#[10]⟩ 0 (Lib.countB s ⟨#[10]⟩) s).map (·.data.toList) = linesP s.data.toList ∧ (Lib.splitB ⟨#[10]⟩ 0 (Lib.countB s ⟨#[10]⟩) s).length = Lib.countB s ⟨#[10]⟩ + 1 :=
  ⟨(Lib.splitB_data _ 0 _ s).trans (splitK_lines _ _ rfl), Lib.splitB_all _ (by decide) 0 _ s rfl⟩
end Go.Proofs.YtaipemiaphpojaaGreatDoor
