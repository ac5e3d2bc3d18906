/- Words in memory; plain steps of split. -/
import Derived.Test.YtaipemiaphpojaaGreatDoorFail
import Derived.Test.YtaipemiaphpojaaGreatDoorRPrint
import Derived.Test.YtaipemiaphpojaaGreatDoorBackP
import Derived.Lib.SmallJoins
namespace Go.Proofs.YtaipemiaphpojaaGreatDoor
open Go Go.Proofs Go.RowKit
theorem info130 : (Tryz.prog.info? 130).map (fun i => (i.zero, i.size, i.bytes)) = some (some (.agg #[.string ⟨#[]⟩, .string ⟨#[]⟩, .int .i64 0, .bool false, .bool false]), 5, 48) := by kernel_rfl
/-- Style's word, held against the law's. -/
structure Like (x : SW) (w : Wd) : Prop where
  text : x.text = ⟨w.text.toArray⟩
  place : x.place = w.place
  quoted : x.quoted = (w.sort != 0)
  broken : x.broken = (w.sort == 2)
  value : w.sort ≠ 2 → x.value = ⟨w.value.toArray⟩
def Likes : List SW → List Wd → Prop
  | [], [] => True
  | x :: xs, w :: ws => Like x w ∧ Likes xs ws
  | _, _ => False
theorem Likes.length : ∀ {xs : List SW} {ws : List Wd}, Likes xs ws → xs.length = ws.length
  | [], [], _ => rfl
  | _ :: _, _ :: _, h => by simp [h.2.length]
  | [], _ :: _, h => h.elim
  | _ :: _, [], h => h.elim
theorem Likes.snoc : ∀ {xs : List SW} {ws : List Wd}, Likes xs ws → ∀ {x : SW} {w : Wd}, Like x w → Likes (xs ++ [x]) (ws ++ [w])
  | [], [], _, _, _, h => ⟨h, trivial⟩
  | _ :: _, _ :: _, h, _, _, h' => ⟨h.1, h.2.snoc h'⟩
  | [], _ :: _, h, _, _, _ => h.elim
  | _ :: _, [], h, _, _, _ => h.elim
def WordsAt (w : World) (A : Option Addr) (l : List SW) : Prop :=
  l = [] ∨ ∃ ad : Addr, A = some ad ∧ ∀ i x, l[i]? = some x → ∀ j u, x.cells[j]? = some u → w.cell? (ad.add (i * 5 + j)) = some u
theorem WordsAt.onward {w w' : World} {A : Option Addr} {l : List SW} (h : WordsAt w A l) (hb : Below w.heap.size w w') : WordsAt w' A l := by
  rcases h with h | ⟨ad, e, h⟩
  · exact .inl h
  · exact .inr ⟨ad, e, fun i r hi j u hj => cell_onward hb (h i r hi j u hj)⟩
theorem sflat_len (l : List SW) : (l.flatMap SW.cells).length = l.length * 5 := by
  induction l with
  | nil => rfl
  | cons x xs ih => simp only [List.flatMap_cons, List.length_append, ih, List.length_cons]; simp [SW.cells]; omega
theorem sflat_get (l : List SW) (i j : Nat) (hj : j < 5) : (l.flatMap SW.cells)[i * 5 + j]? = (l[i]?).bind (fun r => r.cells[j]?) := by
  induction l generalizing i with
  | nil => simp
  | cons x xs ih =>
    have hx : x.cells.length = 5 := rfl
    rw [List.flatMap_cons]
    cases i with
    | zero => rw [Nat.zero_mul, Nat.zero_add, List.getElem?_append_left (by omega)]; simp
    | succ i =>
      rw [List.getElem?_append_right (by omega), show (i + 1) * 5 + j - x.cells.length = i * 5 + j by omega, ih]
      simp
/-- A slice of words that was made here: its block, and what it holds. -/
theorem words_new {w : World} {B : Nat} {v : Value} {l : List SW} (h : w.ownsRow B 130 5 v l.length (l.flatMap SW.cells)) : ∃ A cap, v = .slice A l.length cap ∧ l.length ≤ cap ∧ (∀ ad, A = some ad → ad.block < w.heap.size) ∧ WordsAt w A l := by
  rcases h.2 with ⟨rfl, h0⟩ | ⟨g, cap, cur, rfl, hb, hg, h1, h2, h3, h4⟩
  · exact ⟨none, 0, by rw [h0], by omega, (fun _ h => by cases h), .inl (List.length_eq_zero_iff.1 h0)⟩
  · refine ⟨_, cap, rfl, h1, (fun ad h => by cases h; exact (Array.getElem?_eq_some_iff.1 hg).1), .inr ⟨_, rfl, fun i r hi j u hj => ?_⟩⟩
    have hjl : j < 5 := (List.getElem?_eq_some_iff.1 hj).1
    have hil : i < l.length := (List.getElem?_eq_some_iff.1 hi).1
    have e1 : cur[i * 5 + j]? = some u := by
      have h5 : (cur.toList.take (l.length * 5))[i * 5 + j]? = (l.flatMap SW.cells)[i * 5 + j]? := by rw [h4]
      rw [List.getElem?_take_of_lt (by omega), sflat_get l i j hjl, hi] at h5
      simpa [hj] using h5
    unfold Addr.add
    by_cases hz : i * 5 + j = 0
    · rw [if_pos hz]; unfold World.cell?; rw [hg]; simpa [hz] using e1
    · rw [if_neg hz]; unfold World.cell?; simp only [Nat.zero_add]; rw [hg]; simpa using e1
theorem row130_below {w w' : World} {B : Nat} {v : Value} {n : Nat} {xs : List Value} (hb : B ≤ w.heap.size) (hown : w.ownsRow B 130 5 v n xs) (hg : w.grownBy w' v.ownBlock) : Below B w w' :=
  (Below.refl B w).grown hg hb fun k hk => (hown.lt k hk).1
theorem words_blank (e : Int) {c : UInt8} (l : List UInt8) (h : blk c = true) : words e (c :: l) = words e l := by
  rw [words.eq_def, words.eq_def e l]
  have : (c :: l).dropWhile blk = l.dropWhile blk := by rw [List.dropWhile_cons, if_pos h]
  rw [this]
theorem dropWhile_stay {c : UInt8} (l : List UInt8) (h : blk c = false) : (c :: l).dropWhile blk = c :: l := by
  rw [List.dropWhile_cons, h]; rfl
/-- A bare word's end. -/
theorem bare_end (s : ByteArray) (k j : Nat) (hk : k < j) (hj : j ≤ s.size) (hn : ∀ i, k ≤ i → ∀ h : i < j, blk (s[i]'(by omega)) = false) (he : ∀ h : j < s.size, blk s[j] = true) :
    (s.data.toList.drop k).takeWhile nb = (s.extract k j).data.toList ∧ (s.data.toList.drop k).dropWhile nb = s.data.toList.drop j := by
  have e1 : s.data.toList.drop k = (s.extract k j).data.toList ++ s.data.toList.drop j := by
    rw [ext_list]
    have := List.take_append_drop (j - k) (s.data.toList.drop k)
    rw [List.drop_drop, show k + (j - k) = j by omega] at this
    exact this.symm
  have h1 : ∀ c ∈ (s.extract k j).data.toList, nb c = true := by
    intro c hc
    obtain ⟨i, hi, rfl⟩ := List.getElem_of_mem hc
    have hi' : i < j - k := by
      rw [ext_list, List.length_take] at hi; omega
    have : (s.extract k j).data.toList[i] = s[k + i]'(by omega) := by
      have e2 : (s.extract k j).data.toList[i]? = some (s[k + i]'(by omega)) := by
        rw [ext_list, List.getElem?_take_of_lt hi', List.getElem?_drop, List.getElem?_eq_getElem (by rw [Array.length_toList]; show k + i < s.size; omega)]
        rfl
      rw [List.getElem?_eq_getElem hi] at e2
      injection e2
    rw [this]
    simp only [nb, hn (k + i) (by omega) (by omega), Bool.not_false]
  have h2 : (s.data.toList.drop j).head?.all blk = true := by
    rcases Nat.lt_or_ge j s.size with h | h
    · rw [drop_at s j h]; simpa using he h
    · rw [List.drop_eq_nil_of_le (by rw [Array.length_toList]; exact h)]; rfl
  rw [e1]
  exact drop_nb h1 h2
theorem drop_suffix (s : ByteArray) (k : Nat) (u v : List UInt8) (h : s.data.toList.drop k = u ++ v) (hk : k ≤ s.size) : v = s.data.toList.drop (s.size - v.length) ∧ k + u.length + v.length = s.size := by
  have hl : s.size - k = u.length + v.length := by
    have := congrArg List.length h
    rw [List.length_drop, Array.length_toList, List.length_append] at this
    exact this
  refine ⟨?_, by omega⟩
  have := congrArg (List.drop u.length) h
  rw [List.drop_drop, List.drop_left] at this
  rw [show s.size - v.length = k + u.length by omega, this]
theorem own_onward {w w' : World} {B : Nat} {T : TypeId} {sz : Nat} {v : Value} {n : Nat} {xs : List Value} (h : w.ownsRow B T sz v n xs) (hb : Below w.heap.size w w') : w'.ownsRow B T sz v n xs := by
  obtain ⟨h1, h2⟩ := h
  refine ⟨h1, ?_⟩
  rcases h2 with h2 | ⟨g, cap, cur, hv, hg, hh, r⟩
  · exact Or.inl h2
  · exact Or.inr ⟨g, cap, cur, hv, hg, heap_onward hb hh, r⟩
theorem own_setCell {w : World} {B : Nat} {T : TypeId} {sz : Nat} {v : Value} {n : Nat} {xs : List Value} (h : w.ownsRow B T sz v n xs) {a : Addr} (u : Value) (ha : ∀ k, v.ownBlock = some k → k ≠ a.block) : (w.setCell a u).ownsRow B T sz v n xs := by
  obtain ⟨h1, h2⟩ := h
  refine ⟨h1, ?_⟩
  rcases h2 with h2 | ⟨g, cap, cur, hv, hg, hh, r⟩
  · exact Or.inl h2
  · exact Or.inr ⟨g, cap, cur, hv, hg, by rw [Below.heap_setCell _ _ _ _ (ha g (by rw [hv]; rfl))]; exact hh, r⟩
theorem cell_of5 {w : World} {n : Nat} {c : Array Value} {T : TypeId} (h : w.heap[n]? = some (.cells c T (0, 0))) (i : Nat) {v : Value} (hv : c[i]? = some v) : w.cell? ⟨n, i, none⟩ = some v := by
  simp [World.cell?, h, hv]
theorem bytes_back (s : ByteArray) : s = ⟨s.data.toList.toArray⟩ := by cases s; simp
theorem five_one (x y : ByteArray) (n : Int) (p q : Bool) : ∀ u ∈ [Value.string x, .string y, .int .i64 n, .bool p, .bool q], u.oneCell' = true := by
  intro u hu
  simp only [List.mem_cons, List.not_mem_nil, or_false] at hu
  rcases hu with rfl | rfl | rfl | rfl | rfl <;> rfl
/-- The word in a box of its own. -/
def Boxed (w : World) (n : Nat) (x : SW) : Prop := w.heap[n]? = some (.cells x.cells.toArray 130 (0, 0))
theorem Boxed.on {w w' : World} {n : Nat} {x : SW} (h : Boxed w n x) (hb : Below w.heap.size w w') : Boxed w' n x := heap_onward hb h
theorem Boxed.all {w : World} {n : Nat} {x : SW} (h : Boxed w n x) : w.cell? ⟨n, 0, none⟩ = some (.string x.text) ∧ w.cell? ⟨n, 1, none⟩ = some (.string x.value) ∧ w.cell? ⟨n, 2, none⟩ = some (.int .i64 x.place) ∧ w.cell? ⟨n, 3, none⟩ = some (.bool x.quoted) ∧ w.cell? ⟨n, 4, none⟩ = some (.bool x.broken) ∧ w.frozen? ⟨n, 0, none⟩ = false ∧ w.frozen? ⟨n, 1, none⟩ = false ∧ w.frozen? ⟨n, 4, none⟩ = false :=
  ⟨cell_of5 h 0 rfl, cell_of5 h 1 rfl, cell_of5 h 2 rfl, cell_of5 h 3 rfl, cell_of5 h 4 rfl, Lib.frozen_of_heap h 0, Lib.frozen_of_heap h 1, Lib.frozen_of_heap h 4⟩
theorem Boxed.text {w : World} {n : Nat} {x : SW} (h : Boxed w n x) (t : ByteArray) : Boxed (w.setCell ⟨n, 0, none⟩ (.string t)) n { x with text := t } := Lib.heap_setCell_same (i := 0) h _
theorem Boxed.value {w : World} {n : Nat} {x : SW} (h : Boxed w n x) (t : ByteArray) : Boxed (w.setCell ⟨n, 1, none⟩ (.string t)) n { x with value := t } := Lib.heap_setCell_same (i := 1) h _
theorem Boxed.broken {w : World} {n : Nat} {x : SW} (h : Boxed w n x) (t : Bool) : Boxed (w.setCell ⟨n, 4, none⟩ (.bool t)) n { x with broken := t } := Lib.heap_setCell_same (i := 4) h _
end Go.Proofs.YtaipemiaphpojaaGreatDoor
