/- A slice of rules that came in: what its cells hold. -/
import Derived.Test.YtaipemiaphpojaaGreatDoorQuote
namespace Go.Proofs.YtaipemiaphpojaaGreatDoor
open Go Go.Proofs Go.RowKit
structure Rl where
  text : ByteArray
  plain : Bool
  fold : Bool
  word : Bool
  style : Int
  rank : Int
def Rl.cells (r : Rl) : List Value := [.string r.text, .bool r.plain, .bool r.fold, .bool r.word, .int .u16 r.style, .int .i64 r.rank]
def RulesAt (w : World) (A : Option Addr) (l : List Rl) : Prop :=
  l = [] ∨ ∃ ad : Addr, A = some ad ∧ ∀ i r, l[i]? = some r → ∀ j u, r.cells[j]? = some u → w.cell? (ad.add (i * 6 + j)) = some u
theorem cell_onward {w w' : World} {a : Addr} {u : Value} (hb : Below w.heap.size w w') (h : w.cell? a = some u) : w'.cell? a = some u := by
  have hlt : a.block < w.heap.size := by
    rcases Nat.lt_or_ge a.block w.heap.size with g | g
    · exact g
    · simp [World.cell?, Array.getElem?_eq_none g] at h
  unfold World.cell? at h ⊢
  rw [hb.block _ hlt]
  exact h
theorem RulesAt.onward {w w' : World} {A : Option Addr} {l : List Rl} (h : RulesAt w A l) (hb : Below w.heap.size w w') : RulesAt w' A l := by
  rcases h with h | ⟨ad, e, h⟩
  · exact .inl h
  · exact .inr ⟨ad, e, fun i r hi j u hj => cell_onward hb (h i r hi j u hj)⟩
theorem addr_field (a : Addr) (n j : Nat) (hj : 0 < j) : a.add (n + j) = ⟨(a.add n).block, (a.add n).off + j, none⟩ := by
  unfold Addr.add
  by_cases hn : n = 0
  · subst hn
    simp [Nat.ne_of_gt hj]
  · simp [hn, Nat.add_assoc]
theorem rule_at {w : World} {A : Option Addr} {l : List Rl} (h : RulesAt w A l) (i : Nat) (hi : i < l.length) : ∃ ad : Addr, A = some ad ∧
    w.cell? (ad.add (i * 6)) = some (.string l[i].text) ∧ w.cell? ⟨(ad.add (i * 6)).block, (ad.add (i * 6)).off + 1, none⟩ = some (.bool l[i].plain) ∧
    w.cell? ⟨(ad.add (i * 6)).block, (ad.add (i * 6)).off + 2, none⟩ = some (.bool l[i].fold) ∧ w.cell? ⟨(ad.add (i * 6)).block, (ad.add (i * 6)).off + 3, none⟩ = some (.bool l[i].word) ∧
    w.cell? ⟨(ad.add (i * 6)).block, (ad.add (i * 6)).off + 4, none⟩ = some (.int .u16 l[i].style) ∧ w.cell? ⟨(ad.add (i * 6)).block, (ad.add (i * 6)).off + 5, none⟩ = some (.int .i64 l[i].rank) := by
  rcases h with h | ⟨ad, e, h⟩
  · subst h; simp at hi
  · have hg : l[i]? = some l[i] := List.getElem?_eq_getElem hi
    refine ⟨ad, e, ?_, ?_, ?_, ?_, ?_, ?_⟩
    · exact h i _ hg 0 _ rfl
    · rw [← addr_field _ _ 1 (by omega)]; exact h i _ hg 1 _ rfl
    · rw [← addr_field _ _ 2 (by omega)]; exact h i _ hg 2 _ rfl
    · rw [← addr_field _ _ 3 (by omega)]; exact h i _ hg 3 _ rfl
    · rw [← addr_field _ _ 4 (by omega)]; exact h i _ hg 4 _ rfl
    · rw [← addr_field _ _ 5 (by omega)]; exact h i _ hg 5 _ rfl
end Go.Proofs.YtaipemiaphpojaaGreatDoor
