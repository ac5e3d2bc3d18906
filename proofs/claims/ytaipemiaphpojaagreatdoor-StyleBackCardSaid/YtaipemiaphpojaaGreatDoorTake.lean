/- style's reader: take, number. -/
import Derived.Test.YtaipemiaphpojaaGreatDoorRdr
import Derived.Deep.RegionHeld3
namespace Go.Proofs.YtaipemiaphpojaaGreatDoor
open Go Go.Proofs Go.RowKit
/-- What take does. -/
def TakeRes (r : Nat) (e : Int) (ws : List Wd) (B : Nat) (en : Ending) (w' : World) : Prop := match takeP e ws with
  | .error f => Faulted B f en w'
  | .ok (y, us) => ∃ x ys, Like x y ∧ Likes ys us ∧ en = .returned (.agg x.cells.toArray) ∧ RdAt w' r e ys
set_option maxHeartbeats 4000000 in
set_option maxRecDepth 1000000 in
theorem take_walk (r : Nat) (e : Int) (xs : List SW) (ws : List Wd) (w : World) (h : RdAt w r e xs) (hl : Likes xs ws) :
    Calls Tryz.prog 65 #[.pointer (some ⟨r, 0, none⟩)] w fun en w' => TakeRes r e ws w.heap.size en w' ∧ Touch r w w' := by
  obtain ⟨A, cap, h1, h2, h3, h4⟩ := h
  have hr : r < w.heap.size := (Array.getElem?_eq_some_iff.1 h1).1
  have hrn : r ≠ w.heap.size := Nat.ne_of_lt hr
  have c0 : w.cell? ⟨r, 0, none⟩ = some (.slice A xs.length cap) := cell_of5 h1 0 rfl
  have c1 : w.cell? ⟨r, 1, none⟩ = some (.int .i64 e) := cell_of5 h1 1 rfl
  have f0 := Lib.frozen_of_heap h1 0
  unfold TakeRes
  cases xs with
  | nil =>
    cases ws with
    | cons _ _ => exact hl.elim
    | nil =>
      show Calls _ _ _ _ fun en w' => Faulted w.heap.size (230, e, []) en w' ∧ _
      go_enter Tryz.func65, Tryz.ntmps65
      go_wp2_with (go_at_call 46; refine (fail_walk 230 ⟨⟨#[]⟩, ⟨#[]⟩, e, false, false⟩ [] rfl _).mono ?_)
      rintro en w' ⟨q, hq, rfl, hc⟩ hb
      have hT : Touch r w w' := (Touch.of (Below.alloc (Below.refl _ w) (Nat.le_refl _) (.cells #[.string ⟨#[]⟩, .string ⟨#[]⟩, .int .i64 0, .bool false, .bool false] 130))).trans (Touch.of' (by simp) hb)
      go_wp2
      refine ⟨rfl, ⟨q, Nat.le_of_succ_le hq, rfl, hc⟩, hT⟩
  | cons x xs =>
    cases ws with
    | nil => exact hl.elim
    | cons y ws =>
      obtain ⟨ad, rfl, d0, d1, d2, d3, d4⟩ := word_at h3
      have h4' : ad.block < r := h4 ad rfl
      have hadn : ad.block < w.heap.size := by omega
      have d0' : ∀ o, (w.alloc o).cell? ad = some (.string x.text) := fun o => cell_onward (Below.alloc (Below.refl _ w) (Nat.le_refl _) o) d0
      have hadn' : ad.block ≠ w.heap.size := by omega
      obtain ⟨xt, xv, xp, xq, xb⟩ := x
      obtain ⟨⟨l1, l2, l3, l4, l5⟩, hl2⟩ := hl
      simp only [List.length_cons] at h1 h2 c0
      dsimp only at l1 l2 l3 l4 l5 d0 d1 d2 d3 d4 d0'
      by_cases hbr : y.sort = 2
      · have hxb : xb = true := by rw [l4, hbr]; rfl
        subst hxb
        have htk : takeP e (y :: ws) = .error (230, y.place, y.text) := by show (if y.sort = 2 then _ else _) = _; rw [if_pos hbr]
        rw [htk]
        subst l2
        subst l1
        have hF := fail_e 230 ⟨y.text.toArray⟩ xv y.place xq true y.text rfl
        clear l3 l4 l5 hl2 htk h4
        by_cases hc : 2 ≤ cap
        · have hc' : ¬ cap = 1 := by omega
          clear h3
          go_enter Tryz.func65, Tryz.ntmps65
          go_wp2_with (go_at_call 46; refine (hF _).mono ?_)
          rintro en w' ⟨⟨q, hq, rfl, hcc⟩, hb⟩
          have hT := ((((Touch.refl r w).setCell 0 (.slice (some ⟨ad.block, ad.off + 5, none⟩) xs.length (cap - 1))).alloc (.cells #[.string ⟨#[]⟩, .string ⟨#[]⟩, .int .i64 0, .bool false, .bool false] 130)).alloc (.cells #[.string ⟨y.text.toArray⟩, .string xv, .int .i64 y.place, .bool xq, .bool true] 130)).trans (Touch.of hb)
          go_wp2
          exact ⟨rfl, ⟨q, by simp at hq; omega, rfl, hcc⟩, hT⟩
        · obtain rfl : cap = 1 := by omega
          obtain rfl : xs = [] := List.eq_nil_of_length_eq_zero (by omega)
          clear h3
          go_enter Tryz.func65, Tryz.ntmps65
          go_wp2_with (go_at_call 46; refine (hF _).mono ?_)
          rintro en w' ⟨⟨q, hq, rfl, hcc⟩, hb⟩
          have hT := ((((Touch.refl r w).setCell 0 (.slice (some ad) 0 0)).alloc (.cells #[.string ⟨#[]⟩, .string ⟨#[]⟩, .int .i64 0, .bool false, .bool false] 130)).alloc (.cells #[.string ⟨y.text.toArray⟩, .string xv, .int .i64 y.place, .bool xq, .bool true] 130)).trans (Touch.of hb)
          go_wp2
          exact ⟨rfl, ⟨q, by simp at hq; omega, rfl, hcc⟩, hT⟩
      · have hxb : xb = false := by rw [l4]; simpa using hbr
        subst hxb
        have htk : takeP e (y :: ws) = .ok (y, ws) := by show (if y.sort = 2 then _ else _) = _; rw [if_neg hbr]
        rw [htk]
        have HL : Hid (Like ⟨xt, xv, xp, xq, false⟩ y) := Lib.hid ⟨l1, l2, l3, l4, l5⟩
        clear l1 l2 l3 l4 l5 htk h4
        by_cases hc : 2 ≤ cap
        · have hc' : ¬ cap = 1 := by omega
          go_enter Tryz.func65, Tryz.ntmps65
          go_wp2
          refine ⟨rfl, .agg #[.string xt, .string xv, .int .i64 xp, .bool xq, .bool false], ?_, ?_⟩
          · simp [results, Tryz.results65, go_sem]
          · exact ⟨⟨⟨xt, xv, xp, xq, false⟩, xs, HL.out, hl2, rfl, ((RdAt.next h1 h2 h3 h4' hc).alloc _).alloc _⟩, (((Touch.refl r w).setCell 0 _).alloc _).alloc _⟩
        · obtain rfl : cap = 1 := by omega
          obtain rfl : xs = [] := List.eq_nil_of_length_eq_zero (by omega)
          go_enter Tryz.func65, Tryz.ntmps65
          go_wp2
          refine ⟨rfl, .agg #[.string xt, .string xv, .int .i64 xp, .bool xq, .bool false], ?_, ?_⟩
          · simp [results, Tryz.results65, go_sem]
          · exact ⟨⟨⟨xt, xv, xp, xq, false⟩, [], HL.out, hl2, rfl, ((RdAt.last h1 h4').alloc _).alloc _⟩, (((Touch.refl r w).setCell 0 _).alloc _).alloc _⟩
end Go.Proofs.YtaipemiaphpojaaGreatDoor
