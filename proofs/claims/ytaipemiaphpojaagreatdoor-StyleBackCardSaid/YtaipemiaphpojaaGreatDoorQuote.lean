/- style.quote: a text in quotes, written behind what a builder holds. -/
import Derived.Test.YtaipemiaphpojaaGreatDoorBld
import Derived.WalkKit
import Derived.BigCall
import Derived.Lib.Hide
namespace Go.Proofs.YtaipemiaphpojaaGreatDoor
open Go Go.Proofs Go.RowKit
def dg : List UInt8 := [48, 49, 50, 51, 52, 53, 54, 55, 56, 57, 97, 98, 99, 100, 101, 102]
/-- What a byte is written as. -/
def qb (c : UInt8) : List UInt8 :=
  if c = 34 ∨ c = 92 then [92, c] else if c = 10 then [92, 110] else if c = 9 then [92, 116]
  else if c < 32 ∨ 126 < c then [92, 120, dg.getD (c.toNat / 16) 0, dg.getD (c.toNat % 16) 0] else [c]
def qs (l : List UInt8) : List UInt8 := l.flatMap qb
theorem qs_snoc (l : List UInt8) (c : UInt8) : qs (l ++ [c]) = qs l ++ qb c := by simp [qs]
theorem qb_le (c : UInt8) : (qb c).length ≤ 4 := by unfold qb; (repeat' split) <;> simp
theorem qs_le (l : List UInt8) : (qs l).length ≤ 4 * l.length := by
  induction l with
  | nil => simp [qs]
  | cons c l ih => have := qb_le c; simp only [qs, List.flatMap_cons, List.length_append, List.length_cons] at ih ⊢; omega
theorem qb_q (c : UInt8) (h : c.toNat = 34 ∨ c.toNat = 92) : qb c = [92, c] := by
  have h' : c = 34 ∨ c = 92 := h.imp (fun e => UInt8.toNat_inj.1 e) (fun e => UInt8.toNat_inj.1 e)
  simp [qb, h']
theorem qb_34 (c : UInt8) (h : c.toNat = 34) : qb c = [92, 34] := by
  obtain rfl : c = 34 := UInt8.toNat_inj.1 h
  rfl
theorem qb_110 (c : UInt8) (h : c.toNat = 10) : qb c = [92, 110] := by
  obtain rfl : c = 10 := UInt8.toNat_inj.1 h
  rfl
theorem qb_116 (c : UInt8) (h : c.toNat = 9) : qb c = [92, 116] := by
  obtain rfl : c = 9 := UInt8.toNat_inj.1 h
  rfl
theorem qb_x (c : UInt8) (h0 : c.toNat ≠ 34 ∧ c.toNat ≠ 92) (h1 : c.toNat ≠ 10) (h2 : c.toNat ≠ 9) (h : c.toNat < 32 ∨ 126 < c.toNat) : qb c = [92, 120, dg.getD (c.toNat / 16) 0, dg.getD (c.toNat % 16) 0] := by
  have e : ∀ n : UInt8, c = n ↔ c.toNat = n.toNat := fun n => UInt8.toNat_inj.symm
  unfold qb
  simp only [e, UInt8.lt_iff_toNat_lt]
  rw [if_neg (by simp; omega), if_neg (by simp; omega), if_neg (by simp; omega), if_pos (by simp; omega)]
theorem qb_c (c : UInt8) (h0 : c.toNat ≠ 34 ∧ c.toNat ≠ 92) (h1 : 32 ≤ c.toNat) (h2 : c.toNat ≤ 126) : qb c = [c] := by
  have e : ∀ n : UInt8, c = n ↔ c.toNat = n.toNat := fun n => UInt8.toNat_inj.symm
  unfold qb
  simp only [e, UInt8.lt_iff_toNat_lt]
  rw [if_neg (by simp; omega), if_neg (by simp; omega), if_neg (by simp; omega), if_neg (by simp; omega)]
theorem dig_at (n : Nat) (h : n < 16) : (({ data := #[48, 49, 50, 51, 52, 53, 54, 55, 56, 57, 97, 98, 99, 100, 101, 102] } : ByteArray)[n]'h).toNat = (dg.getD n 0).toNat := by
  have key : ∀ m : Fin 16, (({ data := #[48, 49, 50, 51, 52, 53, 54, 55, 56, 57, 97, 98, 99, 100, 101, 102] } : ByteArray)[m.1]'m.2).toNat = (dg.getD m.1 0).toNat := by decide
  exact key ⟨n, h⟩
theorem strCells_x : (Lib.strCells { data := #[92, 120] }).length = 2 := rfl
theorem take_snoc (s : ByteArray) (k : Nat) (h : k < s.size) : s.data.toList.take (k + 1) = s.data.toList.take k ++ [s[k]] := by
  rw [List.take_succ_eq_append_getElem (by simpa using h)]; rfl
set_option maxHeartbeats 4000000 in
set_option maxRecDepth 1000000 in
theorem quote_walk (B b : Nat) (l : List UInt8) (s : ByteArray) (w : World) (h : Lib.IsBuilderF 72 5 B b (Lib.byteCells l) w) (hlen : l.length + 4 * s.size + 2 ≤ 140737488355328) (hBw : B ≤ w.heap.size) :
    Calls Tryz.prog 29 #[.pointer (some ⟨b, 0, none⟩), .string s] w fun e w' => e = .returned (.tuple #[]) ∧ Lib.IsBuilderF 72 5 B b (Lib.byteCells (l ++ (34 :: qs s.data.toList ++ [34]))) w' ∧ Below B w w' ∧ Lib.OthersKept 5 (some b) w w' := by
  go_enter Tryz.func29, Tryz.ntmps29
  go_wp2_with (go_at_call 30; refine (Builder_WriteByte_k B b _ 34 _ h (by rw [Lib.byteCells_length]; omega) hBw).mono ?_)
  rintro e W1 ⟨rfl, h1, b1, k1⟩
  go_wp2
  go_loopw [10] (fun i wr => ∃ k : Nat, k ≤ s.size ∧ i = .int .i64 k ∧ Lib.IsBuilderF 72 5 B b (Lib.byteCells (l ++ (34 :: qs (s.data.toList.take k)))) wr ∧ Below B w wr ∧ Lib.OthersKept 5 (some b) w wr) (fun i _ => s.size - (intOf i).toNat)
  case atStart =>
    refine ⟨0, Nat.zero_le _, rfl, Or.inr ?_, b1, k1⟩
    simpa [Lib.byteCells, qs] using h1
  case round =>
    obtain ⟨k, hk, rfl, hI, hb, ho⟩ := hrel
    have hql := qs_le (s.data.toList.take k)
    have htl : (s.data.toList.take k).length ≤ k := List.length_take_le _ _
    have hsz : B ≤ wr.heap.size := Nat.le_trans hBw hb.size
    by_cases hlt : k < s.size
    · have hc := s[k].toNat_lt
      have hd1 : 0 ≤ (s[k].toNat : Int) / 16 ∧ (s[k].toNat : Int) / 16 < 16 := by omega
      have hd2 : 0 ≤ (s[k].toNat : Int) % 16 ∧ (s[k].toNat : Int) % 16 < 16 := by omega
      go_wp2_with fail
      · refine (Builder_WriteByte_k B b _ 92 _ hI (by simp only [List.length_append, List.length_cons, List.length_nil, Lib.byteCells_length, Lib.strCells_length]; omega) (by first | exact hsz | exact Nat.le_trans hBw (hb.trans b2).size | exact Nat.le_trans hBw ((hb.trans b2).trans b3).size)).mono ?_
        rintro e W2 ⟨rfl, h2, b2, k2⟩
        go_wp2_with (go_at_call 30; refine (Builder_WriteByte_k B b _ _ _ (Or.inr h2) (by simp only [List.length_append, List.length_cons, List.length_nil, Lib.byteCells_length, Lib.strCells_length]; omega) (by first | exact hsz | exact Nat.le_trans hBw (hb.trans b2).size | exact Nat.le_trans hBw ((hb.trans b2).trans b3).size)).mono ?_)
        rintro e W3 ⟨rfl, h3, b3, k3⟩
        go_wp2
        go_roundw
        case rel =>
          refine ⟨k + 1, by omega, by go_num, ?_, ((hb.trans b2).trans b3), ((ho.trans k2).trans k3)⟩
          have hqv : qb s[k] = [92, 34] := by
            exact qb_34 _ (by omega)
          rw [take_snoc s k hlt, qs_snoc, hqv]
          refine Or.inr ?_
          simpa [Lib.byteCells, Lib.strCells] using h3
        case measure => simp [intOf]; omega
      · refine (Builder_WriteByte_k B b _ 92 _ hI (by simp only [List.length_append, List.length_cons, List.length_nil, Lib.byteCells_length, Lib.strCells_length]; omega) (by first | exact hsz | exact Nat.le_trans hBw (hb.trans b2).size | exact Nat.le_trans hBw ((hb.trans b2).trans b3).size)).mono ?_
        rintro e W2 ⟨rfl, h2, b2, k2⟩
        go_wp2_with (go_at_call 30; refine (Builder_WriteByte_k B b _ _ _ (Or.inr h2) (by simp only [List.length_append, List.length_cons, List.length_nil, Lib.byteCells_length, Lib.strCells_length]; omega) (by first | exact hsz | exact Nat.le_trans hBw (hb.trans b2).size | exact Nat.le_trans hBw ((hb.trans b2).trans b3).size)).mono ?_)
        rintro e W3 ⟨rfl, h3, b3, k3⟩
        go_wp2
        go_roundw
        case rel =>
          refine ⟨k + 1, by omega, by go_num, ?_, ((hb.trans b2).trans b3), ((ho.trans k2).trans k3)⟩
          have hqv : qb s[k] = [92, s[k]] := by
            exact qb_q _ (by simp only [beq_iff_eq, beq_eq_false_iff_ne, ne_eq] at *; omega)
          rw [take_snoc s k hlt, qs_snoc, hqv]
          refine Or.inr ?_
          simpa [Lib.byteCells, Lib.strCells] using h3
        case measure => simp [intOf]; omega
      · refine (Builder_WriteString_k B b _ _ _ hI (by rw [Lib.byteCells_length]; simp only [List.length_append, List.length_cons]; show _ + 2 ≤ _; omega) hsz).mono ?_
        rintro e W2 ⟨rfl, h2, b2, k2⟩
        go_wp2
        go_roundw
        case rel =>
          refine ⟨k + 1, by omega, by go_num, ?_, (hb.trans b2), (ho.trans k2)⟩
          have hqv : qb s[k] = [92, 110] := by
            exact qb_110 _ (by simp only [beq_iff_eq, beq_eq_false_iff_ne, ne_eq] at *; omega)
          rw [take_snoc s k hlt, qs_snoc, hqv]
          refine Or.inr ?_
          simpa [Lib.byteCells, Lib.strCells] using h2
        case measure => simp [intOf]; omega
      · refine (Builder_WriteString_k B b _ _ _ hI (by rw [Lib.byteCells_length]; simp only [List.length_append, List.length_cons]; show _ + 2 ≤ _; omega) hsz).mono ?_
        rintro e W2 ⟨rfl, h2, b2, k2⟩
        go_wp2
        go_roundw
        case rel =>
          refine ⟨k + 1, by omega, by go_num, ?_, (hb.trans b2), (ho.trans k2)⟩
          have hqv : qb s[k] = [92, 116] := by
            exact qb_116 _ (by simp only [beq_iff_eq, beq_eq_false_iff_ne, ne_eq] at *; omega)
          rw [take_snoc s k hlt, qs_snoc, hqv]
          refine Or.inr ?_
          simpa [Lib.byteCells, Lib.strCells] using h2
        case measure => simp [intOf]; omega
      · refine (Builder_WriteString_k B b _ _ _ hI (by rw [Lib.byteCells_length]; simp only [List.length_append, List.length_cons]; show _ + 2 ≤ _; omega) hsz).mono ?_
        rintro e W2 ⟨rfl, h2, b2, k2⟩
        clear hsz
        have hs2 : B ≤ W2.heap.size := Nat.le_trans hBw (hb.trans b2).size
        go_wp2_with (go_at_call 30; refine (Builder_WriteByte_k B b _ _ _ (Or.inr h2) (by simp only [List.length_append, List.length_cons, List.length_nil, Lib.byteCells_length, strCells_x]; omega) hs2).mono ?_)
        rintro e W3 ⟨rfl, h3, b3, k3⟩
        clear hs2
        have hs3 : B ≤ W3.heap.size := Nat.le_trans hBw ((hb.trans b2).trans b3).size
        go_wp2_with (go_at_call 30; refine (Builder_WriteByte_k B b _ _ _ (Or.inr h3) (by simp only [List.length_append, List.length_cons, List.length_nil, Lib.byteCells_length, strCells_x]; omega) hs3).mono ?_)
        rintro e W4 ⟨rfl, h4, b4, k4⟩
        go_wp2
        go_roundw
        case rel =>
          refine ⟨k + 1, by omega, by go_num, ?_, (((hb.trans b2).trans b3).trans b4), (((ho.trans k2).trans k3).trans k4)⟩
          have hqv : qb s[k] = [92, 120, dg.getD (s[k].toNat / 16) 0, dg.getD (s[k].toNat % 16) 0] := by
            exact qb_x _ (by simp only [beq_iff_eq, beq_eq_false_iff_ne, ne_eq] at *; omega) (by simp only [beq_iff_eq, beq_eq_false_iff_ne, ne_eq] at *; omega) (by simp only [beq_iff_eq, beq_eq_false_iff_ne, ne_eq] at *; omega) (by simp only [beq_iff_eq, beq_eq_false_iff_ne, ne_eq] at *; omega)
          rw [take_snoc s k hlt, qs_snoc, hqv]
          refine Or.inr ?_
          rw [dig_at _ (by omega), dig_at _ (by omega)] at h4
          simpa [Lib.byteCells, Lib.strCells] using h4
        case measure => simp [intOf]; omega
      · refine (Builder_WriteByte_k B b _ _ _ hI (by simp only [List.length_append, List.length_cons, List.length_nil, Lib.byteCells_length, Lib.strCells_length]; omega) hsz).mono ?_
        rintro e W2 ⟨rfl, h2, b2, k2⟩
        go_wp2
        go_roundw
        case rel =>
          refine ⟨k + 1, by omega, by go_num, ?_, (hb.trans b2), (ho.trans k2)⟩
          have hqv : qb s[k] = [s[k]] := by
            exact qb_c _ (by simp only [beq_iff_eq, beq_eq_false_iff_ne, ne_eq] at *; omega) (by simp only [beq_iff_eq, beq_eq_false_iff_ne, ne_eq] at *; omega) (by simp only [beq_iff_eq, beq_eq_false_iff_ne, ne_eq] at *; omega)
          rw [take_snoc s k hlt, qs_snoc, hqv]
          refine Or.inr ?_
          simpa [Lib.byteCells, Lib.strCells] using h2
        case measure => simp [intOf]; omega
      · refine (Builder_WriteString_k B b _ _ _ hI (by rw [Lib.byteCells_length]; simp only [List.length_append, List.length_cons]; show _ + 2 ≤ _; omega) hsz).mono ?_
        rintro e W2 ⟨rfl, h2, b2, k2⟩
        clear hsz
        have hs2 : B ≤ W2.heap.size := Nat.le_trans hBw (hb.trans b2).size
        go_wp2_with (go_at_call 30; refine (Builder_WriteByte_k B b _ _ _ (Or.inr h2) (by simp only [List.length_append, List.length_cons, List.length_nil, Lib.byteCells_length, strCells_x]; omega) hs2).mono ?_)
        rintro e W3 ⟨rfl, h3, b3, k3⟩
        clear hs2
        have hs3 : B ≤ W3.heap.size := Nat.le_trans hBw ((hb.trans b2).trans b3).size
        go_wp2_with (go_at_call 30; refine (Builder_WriteByte_k B b _ _ _ (Or.inr h3) (by simp only [List.length_append, List.length_cons, List.length_nil, Lib.byteCells_length, strCells_x]; omega) hs3).mono ?_)
        rintro e W4 ⟨rfl, h4, b4, k4⟩
        go_wp2
        go_roundw
        case rel =>
          refine ⟨k + 1, by omega, by go_num, ?_, (((hb.trans b2).trans b3).trans b4), (((ho.trans k2).trans k3).trans k4)⟩
          have hqv : qb s[k] = [92, 120, dg.getD (s[k].toNat / 16) 0, dg.getD (s[k].toNat % 16) 0] := by
            exact qb_x _ (by simp only [beq_iff_eq, beq_eq_false_iff_ne, ne_eq] at *; omega) (by simp only [beq_iff_eq, beq_eq_false_iff_ne, ne_eq] at *; omega) (by simp only [beq_iff_eq, beq_eq_false_iff_ne, ne_eq] at *; omega) (by simp only [beq_iff_eq, beq_eq_false_iff_ne, ne_eq] at *; omega)
          rw [take_snoc s k hlt, qs_snoc, hqv]
          refine Or.inr ?_
          rw [dig_at _ (by omega), dig_at _ (by omega)] at h4
          simpa [Lib.byteCells, Lib.strCells] using h4
        case measure => simp [intOf]; omega
    · go_wp2_with (go_at_call 30; refine (Builder_WriteByte_k B b _ 34 _ hI (by simp only [List.length_append, List.length_cons, Lib.byteCells_length]; omega) hsz).mono ?_)
      rintro e W2 ⟨rfl, h2, b2, k2⟩
      go_wp2
      refine bodyPost_end (v := .tuple #[]) (by simp [results, Tryz.results29, go_sem]) rfl ⟨rfl, Or.inr ?_, hb.trans b2, ho.trans k2⟩
      have ht : s.data.toList.take k = s.data.toList := List.take_of_length_le (by simp; omega)
      rw [ht] at h2
      simpa [Lib.byteCells] using h2
end Go.Proofs.YtaipemiaphpojaaGreatDoor
