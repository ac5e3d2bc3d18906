/- What stays: blocks, builders; Itoa, by its contract. -/
import Derived.Test.YtaipemiaphpojaaGreatDoorRules
import Derived.Lib.AppendIntMem
namespace Go.Proofs.YtaipemiaphpojaaGreatDoor
open Go Go.Proofs Go.RowKit Go.Sort
theorem heap_onward {w w' : World} (hb : Below w.heap.size w w') {k : Nat} {o : Obj} (h : w.heap[k]? = some o) : w'.heap[k]? = some o := by
  rw [hb.block _ (Array.getElem?_eq_some_iff.1 h).1]; exact h
theorem bld_onward {T e : TypeId} {B b : Nat} {bs : List Value} {w w' : World} (h : Lib.IsBuilderF T e B b bs w) (hb : Below w.heap.size w w') : Lib.IsBuilderF T e B b bs w' := by
  have key : ∀ p, Lib.BuilderAtF T e B b p bs w → Lib.BuilderAtF T e B b p bs w' := by
    rintro p ⟨hB, v, h1, ⟨h2, h3⟩, h4⟩
    refine ⟨hB, v, heap_onward hb h1, ⟨h2, ?_⟩, h4⟩
    rcases h3 with h3 | ⟨g, cap, cur, fz, k1, k2, k3, k4⟩
    · exact .inl h3
    · exact .inr ⟨g, cap, cur, fz, k1, k2, heap_onward hb k3, k4⟩
  exact h.imp (key _) (key _)
theorem itoa_c (n : Int) (h0 : -9223372036854775808 ≤ n) (h1 : n ≤ 9223372036854775807) (w : World) (htab : Lib.TabIs Tryz.prog w "internal/strconv.uint64pow10" .u64 Lib.pow10Tab) :
    Calls Tryz.prog 28 #[.int .i64 n] w fun e w' => e = .returned (.string ⟨(Lib.itoa n).toArray⟩) ∧ Below w.heap.size w w' := by
  refine (strconv_Itoa n h0 h1 w htab).mono ?_
  rintro e w' ⟨rfl, k, os, rfl⟩
  refine ⟨rfl, ⟨rfl, rfl, rfl, by simp [grow, World.drewN], fun j hj => ?_⟩⟩
  simp [grow, World.drewN, Array.getElem?_append, hj]
/-- A rule in a box of its own: the block; the cells that are read of it; what stood there stands. -/
abbrev BoxS (B n : Nat) (w0 : World) (r : Rl) (w : World) : Prop :=
  w.heap[n]? = some (.cells #[.string r.text, .bool r.plain, .bool r.fold, .bool r.word, .int .u16 r.style, .int .i64 r.rank] 33 (0, 0)) ∧ Below B w0 w ∧
  w.cell? ⟨n, 5, none⟩ = some (.int .i64 r.rank) ∧ w.cell? ⟨n, 4, none⟩ = some (.int .u16 r.style)
theorem boxS_of {B n : Nat} {w0 w : World} {r : Rl} (h : w.heap[n]? = some (.cells #[.string r.text, .bool r.plain, .bool r.fold, .bool r.word, .int .u16 r.style, .int .i64 r.rank] 33 (0, 0))) (hb : Below B w0 w) : BoxS B n w0 r w :=
  ⟨h, hb, by simp [World.cell?, h], by simp [World.cell?, h]⟩
theorem boxS_below {B n : Nat} {w0 w w' : World} {r : Rl} (h : BoxS B n w0 r w) (hB : B ≤ w0.heap.size) (hb : Below w.heap.size w w') : BoxS B n w0 r w' :=
  boxS_of (heap_onward hb h.1) (h.2.1.trans (hb.mono (Nat.le_trans hB h.2.1.size)))
theorem boxS_others {B B' n b : Nat} {w0 w w' : World} {r : Rl} (h : BoxS B n w0 r w) (hB : B ≤ B') (hn : n ≠ b) (hb : Below B' w w') (ho : Lib.OthersKept 5 (some b) w w') : BoxS B n w0 r w' :=
  boxS_of (ho _ _ h.1 (by simpa using hn) (by intro c fz h; cases h)) (h.2.1.trans (hb.mono hB))
end Go.Proofs.YtaipemiaphpojaaGreatDoor
