/- style's reader: its block; said. -/
import Derived.Test.YtaipemiaphpojaaGreatDoorSplit
import Derived.Deep.SlicePairs
namespace Go.Proofs.YtaipemiaphpojaaGreatDoor
open Go Go.Proofs Go.RowKit Go.Deep Go.Joins
/-- What stood there stands, but for the block r. -/
structure Touch (r : Nat) (w w' : World) : Prop where
  os : w'.os = w.os
  tape : w'.tape = w.tape
  output : w'.output = w.output
  size : w.heap.size ≤ w'.heap.size
  block : ∀ k, k < w.heap.size → k ≠ r → w'.heap[k]? = w.heap[k]?
theorem Touch.refl (r : Nat) (w : World) : Touch r w w := ⟨rfl, rfl, rfl, Nat.le_refl _, fun _ _ _ => rfl⟩
theorem Touch.trans {r : Nat} {a b c : World} (h : Touch r a b) (k : Touch r b c) : Touch r a c :=
  ⟨k.os.trans h.os, k.tape.trans h.tape, k.output.trans h.output, Nat.le_trans h.size k.size, fun i hi hr => (k.block i (Nat.lt_of_lt_of_le hi h.size) hr).trans (h.block i hi hr)⟩
theorem Touch.of {r : Nat} {w w' : World} (h : Below w.heap.size w w') : Touch r w w' := ⟨h.os, h.tape, h.output, h.size, fun k hk _ => h.block k hk⟩
theorem Touch.of' {r B : Nat} {w w' : World} (hB : w.heap.size ≤ B) (h : Below B w w') : Touch r w w' := ⟨h.os, h.tape, h.output, h.size, fun k hk _ => h.block k (by omega)⟩
theorem Touch.below {r B : Nat} {w w' : World} (h : Touch r w w') (hB : B ≤ r) (hB' : B ≤ w.heap.size) : Below B w w' := ⟨h.os, h.tape, h.output, h.size, fun k hk => h.block k (by omega) (by omega)⟩
theorem Touch.setCell {r : Nat} {a w : World} (h : Touch r a w) (o : Nat) (u : Value) : Touch r a (w.setCell ⟨r, o, none⟩ u) :=
  h.trans ⟨rfl, rfl, rfl, by simp [World.setCell], fun k _ hr => Below.heap_setCell _ _ _ _ hr⟩
theorem Touch.alloc {r : Nat} {a w : World} (h : Touch r a w) (o : Obj) : Touch r a (w.alloc o) := h.trans (Touch.of ((Below.refl _ w).alloc (Nat.le_refl _) o))
theorem RdAt_alloc {w : World} {r : Nat} {e : Int} {xs : List SW} (o : Obj) (h : ∃ A cap, w.heap[r]? = some (.cells #[.slice A xs.length cap, .int .i64 e] 128 (0, 0)) ∧ xs.length ≤ cap ∧ WordsAt w A xs ∧ ∀ ad, A = some ad → ad.block < r) : ∃ A cap, (w.alloc o).heap[r]? = some (.cells #[.slice A xs.length cap, .int .i64 e] 128 (0, 0)) ∧ xs.length ≤ cap ∧ WordsAt (w.alloc o) A xs ∧ ∀ ad, A = some ad → ad.block < r := by
  obtain ⟨A, cap, h1, h2, h3, h4⟩ := h
  have hb := Below.alloc (Below.refl _ w) (Nat.le_refl _) o
  exact ⟨A, cap, heap_onward hb h1, h2, h3.onward hb, h4⟩
theorem Touch.heap {r : Nat} {w w' : World} (h : Touch r w w') {k : Nat} {o : Obj} (hk : w.heap[k]? = some o) (hr : k ≠ r) : w'.heap[k]? = some o := by
  rw [h.block k (Array.getElem?_eq_some_iff.1 hk).1 hr]; exact hk
theorem Touch.cell {r : Nat} {w w' : World} (h : Touch r w w') {p : Addr} {u : Value} (hc : w.cell? p = some u) (hr : p.block ≠ r) : w'.cell? p = some u := by
  have hlt : p.block < w.heap.size := by
    rcases Nat.lt_or_ge p.block w.heap.size with g | g
    · exact g
    · simp [World.cell?, Array.getElem?_eq_none g] at hc
  unfold World.cell? at hc ⊢
  rw [h.block _ hlt hr]
  exact hc
theorem Touch.words {r : Nat} {w w' : World} (h : Touch r w w') {A : Option Addr} {xs : List SW} (hw : WordsAt w A xs) (hA : ∀ ad, A = some ad → ad.block < r) : WordsAt w' A xs := by
  rcases hw with hw | ⟨ad, e, hw⟩
  · exact .inl hw
  · refine .inr ⟨ad, e, fun i x hi j u hj => h.cell (hw i x hi j u hj) ?_⟩
    have := hA ad e
    have e2 : (ad.add (i * 5 + j)).block = ad.block := by unfold Addr.add; split <;> rfl
    omega
/-- The reader in its block. -/
def RdAt (w : World) (r : Nat) (e : Int) (xs : List SW) : Prop :=
  ∃ A cap, w.heap[r]? = some (.cells #[.slice A xs.length cap, .int .i64 e] 128 (0, 0)) ∧ xs.length ≤ cap ∧ WordsAt w A xs ∧ ∀ ad, A = some ad → ad.block < r
theorem RdAt.onward {w w' : World} {r : Nat} {e : Int} {xs : List SW} (h : RdAt w r e xs) (hb : Below w.heap.size w w') : RdAt w' r e xs := by
  obtain ⟨A, cap, h1, h2, h3, h4⟩ := h
  exact ⟨A, cap, heap_onward hb h1, h2, h3.onward hb, h4⟩
theorem RdAt.alloc {w : World} {r : Nat} {e : Int} {xs : List SW} (h : RdAt w r e xs) (o : Obj) : RdAt (w.alloc o) r e xs := RdAt_alloc o h
theorem add5 (a : Addr) (n : Nat) (hn : 0 < n) : (a.add n).block = a.block := by unfold Addr.add; split <;> rfl
/-- The first word's cells. -/
theorem word_at {w : World} {A : Option Addr} {x : SW} {xs : List SW} (h : WordsAt w A (x :: xs)) : ∃ ad : Addr, A = some ad ∧
    w.cell? ad = some (.string x.text) ∧ w.cell? ⟨ad.block, ad.off + 1, none⟩ = some (.string x.value) ∧ w.cell? ⟨ad.block, ad.off + 2, none⟩ = some (.int .i64 x.place) ∧ w.cell? ⟨ad.block, ad.off + 3, none⟩ = some (.bool x.quoted) ∧ w.cell? ⟨ad.block, ad.off + 4, none⟩ = some (.bool x.broken) := by
  rcases h with h | ⟨ad, e, h⟩
  · cases h
  · have a0 : ad.add 0 = ad := rfl
    have aj : ∀ j, 0 < j → ad.add j = ⟨ad.block, ad.off + j, none⟩ := fun j hj => by unfold Addr.add; rw [if_neg (by omega)]
    refine ⟨ad, e, ?_, ?_, ?_, ?_, ?_⟩
    · have := h 0 x rfl 0 _ rfl; simpa [a0] using this
    · have := h 0 x rfl 1 _ rfl; simpa [aj] using this
    · have := h 0 x rfl 2 _ rfl; simpa [aj] using this
    · have := h 0 x rfl 3 _ rfl; simpa [aj] using this
    · have := h 0 x rfl 4 _ rfl; simpa [aj] using this
theorem words_tail {w : World} {ad : Addr} {x : SW} {xs : List SW} (h : WordsAt w (some ad) (x :: xs)) : WordsAt w (some (ad.add 5)) xs := by
  rcases h with h | ⟨ad', e, h⟩
  · cases h
  · cases e
    refine .inr ⟨_, rfl, fun i y hi j u hj => ?_⟩
    have := h (i + 1) y (by simpa using hi) j u hj
    rw [add_add]
    rw [show 5 + (i * 5 + j) = (i + 1) * 5 + j by omega]
    exact this
/-- The reader goes on behind its first word. -/
theorem RdAt.next {w : World} {r : Nat} {e : Int} {ad : Addr} {cap : Nat} {x : SW} {xs : List SW} (h1 : w.heap[r]? = some (.cells #[.slice (some ad) (xs.length + 1) cap, .int .i64 e] 128 (0, 0))) (h2 : xs.length + 1 ≤ cap) (h3 : WordsAt w (some ad) (x :: xs)) (h4 : ad.block < r) (hc : 2 ≤ cap) :
    RdAt (w.setCell ⟨r, 0, none⟩ (.slice (some ⟨ad.block, ad.off + 5, none⟩) xs.length (cap - 1))) r e xs := by
  have e5 : (⟨ad.block, ad.off + 5, none⟩ : Addr) = ad.add 5 := by unfold Addr.add; rw [if_neg (by decide)]
  refine ⟨some ⟨ad.block, ad.off + 5, none⟩, cap - 1, Lib.heap_setCell_same (i := 0) h1 _, by omega, ?_, fun ad' h => by cases h; exact h4⟩
  rw [e5]
  exact ((Touch.refl r w).setCell 0 _).words (words_tail h3) (fun ad' h => by cases h; rw [add5 _ _ (by decide)]; exact h4)
theorem RdAt.last {w : World} {r : Nat} {e : Int} {ad : Addr} {cap n : Nat} (h1 : w.heap[r]? = some (.cells #[.slice (some ad) n cap, .int .i64 e] 128 (0, 0))) (h4 : ad.block < r) :
    RdAt (w.setCell ⟨r, 0, none⟩ (.slice (some ad) 0 0)) r e [] :=
  ⟨some ad, 0, Lib.heap_setCell_same (i := 0) h1 _, by simp, .inl rfl, fun ad' h => by cases h; exact h4⟩
set_option maxHeartbeats 4000000 in
set_option maxRecDepth 1000000 in
theorem said_walk (r : Nat) (e : Int) (t : List UInt8) (xs : List SW) (ws : List Wd) (w : World) (h : RdAt w r e xs) (hl : Likes xs ws) :
    Calls Tryz.prog 63 #[.pointer (some ⟨r, 0, none⟩), .string ⟨t.toArray⟩] w fun en w' => en = .returned (.bool (saidP t ws).1) ∧ Touch r w w' ∧ ∃ ys, Likes ys (saidP t ws).2 ∧ RdAt w' r e ys := by
  obtain ⟨A, cap, h1, h2, h3, h4⟩ := h
  have c0 : w.cell? ⟨r, 0, none⟩ = some (.slice A xs.length cap) := cell_of5 h1 0 rfl
  have f0 := Lib.frozen_of_heap h1 0
  cases xs with
  | nil =>
    cases ws with
    | cons _ _ => exact hl.elim
    | nil =>
      go_enter Tryz.func63, Tryz.ntmps63
      go_wp2
      go_ret
      exact ⟨rfl, Touch.refl _ _, [], trivial, A, cap, h1, h2, h3, h4⟩
  | cons x xs =>
    cases ws with
    | nil => exact hl.elim
    | cons y ws =>
      obtain ⟨ad, rfl, d0, d1, d2, d3, d4⟩ := word_at h3
      have h4' : ad.block < r := h4 ad rfl
      by_cases ht : y.text = t
      · have hx : x.text = ⟨t.toArray⟩ := by rw [hl.1.text, ht]
        have hsd : saidP t (y :: ws) = (true, ws) := by show (if y.text = t then _ else _) = _; rw [if_pos ht]
        rw [hx] at d0
        rw [hsd]
        by_cases hc : 2 ≤ cap
        · have hc' : ¬ cap = 1 := by omega
          go_enter Tryz.func63, Tryz.ntmps63
          go_wp2
          go_ret
          exact ⟨rfl, (Touch.refl r w).setCell 0 _, xs, hl.2, RdAt.next h1 h2 h3 h4' hc⟩
        · obtain rfl : cap = 1 := by simp only [List.length_cons] at h2; omega
          obtain rfl : xs = [] := List.eq_nil_of_length_eq_zero (by simp only [List.length_cons] at h2; omega)
          go_enter Tryz.func63, Tryz.ntmps63
          go_wp2
          go_ret
          exact ⟨rfl, (Touch.refl r w).setCell 0 _, [], hl.2, RdAt.last h1 h4'⟩
      · have hx : ¬ x.text = ⟨t.toArray⟩ := fun hh => ht (by
          have := hl.1.text.symm.trans hh
          simpa using this)
        have hsd : saidP t (y :: ws) = (false, y :: ws) := by show (if y.text = t then _ else _) = _; rw [if_neg ht]
        rw [hsd]
        have hne : (x.text.toList == t) = false := by
          rw [beq_eq_false_iff_ne]
          intro hh
          apply hx
          apply ByteArray.ext
          apply Array.toList_inj.1
          rw [← hh]
          rw [ByteArray.toList_eq]
        go_enter Tryz.func63, Tryz.ntmps63
        go_wp2
        go_ret
        exact ⟨rfl, Touch.refl _ _, x :: xs, hl, _, cap, h1, h2, h3, h4⟩
end Go.Proofs.YtaipemiaphpojaaGreatDoor
