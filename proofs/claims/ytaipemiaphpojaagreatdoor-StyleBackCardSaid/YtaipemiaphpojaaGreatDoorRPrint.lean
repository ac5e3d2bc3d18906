/- shuttleref23.Print: what it writes. -/
import Derived.Test.YtaipemiaphpojaaGreatDoorDigits
import Derived.Test.YtaipemiaphpojaaGreatDoorSPrint
import Derived.Lib.AppendStr
import Derived.Deep.DeepCutAuto
namespace Go.Proofs.YtaipemiaphpojaaGreatDoor
open Go Go.Proofs Go.RowKit
theorem row_onward {w w' : World} {B : Nat} {v : Value} {n : Nat} {xs : List Value} (h : w.ownsRow B 5 1 v n xs) (hb : Below w.heap.size w w') : w'.ownsRow B 5 1 v n xs := by
  refine ⟨h.1, ?_⟩
  rcases h.2 with h | ⟨g, cap, cur, k1, k2, k3, k4⟩
  · exact .inl h
  · exact .inr ⟨g, cap, cur, k1, k2, heap_onward hb k3, k4⟩
theorem row_str {w : World} {B : Nat} {v : Value} {l : List UInt8} {s : ByteArray} (h : w.ownsRow B 5 1 v (l.length + s.size) (Lib.byteCells l ++ Lib.strCells s)) : w.ownsRow B 5 1 v (l ++ s.data.toList).length (Lib.byteCells (l ++ s.data.toList)) := by
  rw [List.length_append, Lib.byteCells_append, Array.length_toList]; exact h
theorem row_one {w : World} {B : Nat} {v : Value} {l : List UInt8} {d : UInt8} {z : Int} (hz : z = d.toNat) (h : w.ownsRow B 5 1 v (l.length + 1) (Lib.byteCells l ++ [.int .u8 z])) : w.ownsRow B 5 1 v (l ++ [d]).length (Lib.byteCells (l ++ [d])) := by
  subst hz
  rw [List.length_append, Lib.byteCells_append]; exact h
theorem conv_any {w : World} {B : Nat} {v : Value} {l : List UInt8} (h : w.ownsRow B 5 1 v l.length (Lib.byteCells l)) : ∃ a cap, v = .slice a l.length cap ∧ (convert 70 9 (.slice a l.length cap)).run Tryz.prog w = .ok (.string ⟨l.toArray⟩) w := by
  by_cases hl : l = []
  · subst hl
    rcases h.2 with ⟨rfl, _⟩ | ⟨g, cap, cur, rfl, _⟩
    · exact ⟨none, 0, rfl, by rw [show ([] : List UInt8).length = 0 from rfl, run_convert_bytes_string w 70 9 5 none 0 0 Tryz.underlying70 Tryz.underlying5 Tryz.underlying9]; rfl⟩
    · exact ⟨_, cap, rfl, run_convert_bytes_back (P := Tryz.prog) w 70 9 5 _ cap [] Tryz.underlying70 Tryz.underlying5 Tryz.underlying9 (fun j hj => by cases hj)⟩
  · obtain ⟨a, cap, rfl, hcell⟩ := row_bytes h hl
    exact ⟨_, cap, rfl, run_convert_bytes_back (P := Tryz.prog) w 70 9 5 a cap l Tryz.underlying70 Tryz.underlying5 Tryz.underlying9 hcell⟩
theorem row_str2 {w : World} {B : Nat} {v : Value} {l : List UInt8} {s : ByteArray} {n : Nat} (hn : n = s.size) (h : w.ownsRow B 5 1 v (l.length + n) (Lib.byteCells l ++ Lib.strCells s)) : w.ownsRow B 5 1 v (l ++ s.data.toList).length (Lib.byteCells (l ++ s.data.toList)) := by
  subst hn
  exact row_str h
theorem row_slice {w : World} {B : Nat} {v : Value} {l : List UInt8} (h : w.ownsRow B 5 1 v l.length (Lib.byteCells l)) : ∃ a cap, v = .slice a l.length cap := by
  rcases h.2 with ⟨rfl, h0⟩ | ⟨g, cap, cur, rfl, _⟩
  · exact ⟨none, 0, by rw [h0]⟩
  · exact ⟨_, cap, rfl⟩
theorem quoted_le {s : ByteArray} (h : s.size ≤ 1048576) : (34 :: qs s.data.toList ++ [34]).length ≤ 4194306 := by
  have h1 := qs_le s.data.toList
  have h2 : s.data.toList.length = s.size := Array.length_toList
  simp only [List.length_append, List.length_cons, List.length_nil]
  omega
theorem goP_next {l : List Rl} {j : Nat} {acc : List UInt8} (h : j < l.length) (h1 : ¬ 1048576 < acc.length + l[j].text.size) (hg : goP (l.drop j) acc = goP l []) : goP (l.drop (j + 1)) (acc ++ lineOf l[j]) = goP l [] := by
  rw [← hg, goP_cons h, if_neg h1]
theorem row_nil (w : World) (B : Nat) : w.ownsRow B 5 1 (.slice none 0 0) ([] : List UInt8).length (Lib.byteCells []) := ⟨rfl, .inl ⟨rfl, rfl⟩⟩
set_option maxHeartbeats 8000000 in
set_option maxRecDepth 1000000 in
theorem rprint_walk (A : Option Addr) (c : Nat) (l : List Rl) (w : World) (hC : RulesAt w A l) (_hc : l.length ≤ c) (hk : ∀ r ∈ l, r.ok) :
    Calls Tryz.prog 12 #[.slice A l.length c] w fun e w' => e = .returned (.tuple #[.string ⟨(printP l).1.toArray⟩, .int .i64 (printP l).2]) ∧ Below w.heap.size w w' := by
  obtain ⟨i0, hi, hz0, hz1, hz2⟩ := info_parts info5
  by_cases h64 : 64 < l.length
  · have hp : printP l = ([], 3) := by unfold printP; rw [if_pos h64]
    rw [hp]
    clear hp
    go_enter Tryz.func12, Tryz.ntmps12
    go_wp2
    go_ret2
    exact ⟨rfl, Below.refl _ _⟩
  have HK := Lib.hid hk
  clear hk
  go_enter Tryz.func12, Tryz.ntmps12
  go_wp2
  go_loopw [4] (fun i wr => ∃ k : Nat, k ≤ l.length ∧ i = .int .i64 k ∧ Hid (∀ x ∈ l.take k, rankOut x = false) ∧ Below w.heap.size w wr) (fun i _ => l.length - (intOf i).toNat)
  case atStart => exact ⟨0, Nat.zero_le _, rfl, Lib.hid (by simp), Below.refl _ _⟩
  case round =>
    obtain ⟨k, hk, rfl, hal, hb⟩ := hrel
    by_cases hlt : k < l.length
    · obtain ⟨ad, rfl, g0, g1, g2, g3, g4, g5⟩ := rule_at (hC.onward hb) k hlt
      go_wp2_with fail
      · go_ret2
        rw [printP_out h64 (any_of_at hlt (by simp [rankOut]; omega))]
        exact ⟨rfl, hb⟩
      · go_roundw
        case rel => exact ⟨k + 1, by omega, by go_num, Lib.hid (take_out hlt hal.out (by simp [rankOut]; omega)), hb⟩
        case measure => simp [intOf]; omega
      · go_ret2
        rw [printP_out h64 (any_of_at hlt (by simp [rankOut]; omega))]
        exact ⟨rfl, hb⟩
    · have hall : Hid (∀ x ∈ l, rankOut x = false) := Lib.hid (fun x hx => hal.out x (by rw [List.take_of_length_le (by omega)]; exact hx))
      have hpp : Hid (printP l = goP l []) := Lib.hid (printP_go h64 hall.out)
      clear hal
      obtain ⟨w1, rfl⟩ : ∃ w1, w1 = wr := ⟨_, rfl⟩
      go_wp2
      go_loopw [5, 6] (fun v i wx => ∃ (k : Nat) (acc : List UInt8), k ≤ l.length ∧ i = .int .i64 k ∧ Hid (goP (l.drop k) acc = goP l []) ∧ acc.length ≤ 6291456 ∧ wx.ownsRow w.heap.size 5 1 v acc.length (Lib.byteCells acc) ∧ Below w.heap.size w wx) (fun _ i _ => l.length - (intOf i).toNat)
      case atStart => exact ⟨0, [], Nat.zero_le _, rfl, Lib.hid rfl, by simp, row_nil _ _, hb⟩
      case round =>
        obtain ⟨j, acc, hj, rfl, hgo, hacc, hown, hbx⟩ := hrel
        obtain ⟨WA, rfl⟩ : ∃ WA, WA = wr := ⟨_, rfl⟩
        by_cases hjl : j < l.length
        · obtain ⟨ad, rfl, g0, g1, g2, g3, g4, g5⟩ := rule_at (hC.onward hbx) j hjl
          have hok := HK.out l[j] (List.getElem_mem hjl)
          obtain ⟨ho1, ho2, ho3⟩ := hok
          have hro := rank_in (hall.out l[j] (List.getElem_mem hjl))
          have hst : IntKind.i64.wrap l[j].style = l[j].style := IntWalk.i64_in _ (by omega)
          obtain ⟨n, v0, hvn⟩ := row_slice hown
          subst hvn
          have hw0 : IntKind.i64.wrap ((acc.length : Int) + (l[j].text.size : Int)) = (acc.length : Int) + (l[j].text.size : Int) := IntWalk.i64_in _ (by omega)
          by_cases h1m : 1048576 < acc.length + l[j].text.size
          · have hd : decide ((1048576 : Int) < (acc.length : Int) + (l[j].text.size : Int)) = true := decide_eq_true (by omega)
            go_wp2_with fail
            go_ret2
            rw [hpp.out, goP_long hjl hgo.out h1m]
            exact ⟨rfl, hbx⟩
          · have hd : decide ((1048576 : Int) < (acc.length : Int) + (l[j].text.size : Int)) = false := decide_eq_false (by omega)
            have hac0 : acc.length ≤ 1048576 := by omega
            have HL : acc.length + 5 ≤ maxLen := by simp only [maxLen]; omega
            have HM : acc.length + 5 ≤ 140737488355328 := by omega
            have HM1 : (acc.length + 5) * 1 ≤ 140737488355328 := by omega
            go_wp2_with (at_builtin; refine Lib.wpList_append_own_string _ rfl (.tmp 47) _ 70 9 rfl w.heap.size 5 i0 Tryz.underlying70 Tryz.underlying9 hi hz0 hz1 hz2 _ _ _ rfl hown _ rfl (show acc.length + 5 ≤ maxLen from HL) (show acc.length + 5 ≤ 140737488355328 from HM) (hbx).size ?_)
            intro v1 W1 hh1 gg1 _
            have hb1 : Below w.heap.size w W1 := hbx.trans (row_below hbx.size hown gg1)
            obtain ⟨acc1, ha1⟩ : ∃ a, a = acc ++ [114, 117, 108, 101, 32] := ⟨_, rfl⟩
            have hown1 : W1.ownsRow w.heap.size 5 1 v1 acc1.length (Lib.byteCells acc1) := by rw [ha1]; exact row_str hh1
            have hac1 : acc1.length ≤ 1048581 := by rw [ha1, List.length_append]; simp only [List.length_cons, List.length_nil]; omega
            have HA1 := Lib.hid ha1
            clear HL HM HM1 hh1 gg1 ha1 hown
            clear g0 g1 g2 g3 g4 g5
            obtain ⟨ad_, hade, g0, g1, g2, g3, g4, g5⟩ := rule_at (hC.onward hb1) j hjl
            obtain rfl : ad = ad_ := Option.some.inj hade
            clear hade
            go_wp2_with (go_at_call 32; refine (digits_walk _ (by omega) (by omega) _).mono ?_)
            rintro e X1 ⟨rfl, hx1⟩
            have hownc := row_onward hown1 hx1
            have hbc := hb1.trans (hx1.mono hb1.size)
            have hlen := Lib.itoa_length_le l[j].rank (by omega) (by omega)
            have HL : acc1.length + (Lib.itoa l[j].rank).length ≤ maxLen := by simp only [maxLen]; omega
            have HM : acc1.length + (Lib.itoa l[j].rank).length ≤ 140737488355328 := by omega
            have HM1 := HM
            go_wp2_with (at_builtin; refine Lib.wpList_append_own_string _ rfl (.tmp 49) _ 70 9 rfl w.heap.size 5 i0 Tryz.underlying70 Tryz.underlying9 hi hz0 hz1 hz2 _ _ _ rfl hownc _ rfl (show acc1.length + (Lib.itoa l[j].rank).length ≤ maxLen from HL) (show acc1.length + (Lib.itoa l[j].rank).length ≤ 140737488355328 from HM) hbc.size ?_)
            intro v2 W2 hh2 gg2 _
            have hb2 : Below w.heap.size w W2 := hbc.trans (row_below hbc.size hownc gg2)
            obtain ⟨acc2, ha2⟩ : ∃ a, a = acc1 ++ Lib.itoa l[j].rank := ⟨_, rfl⟩
            have hown2 : W2.ownsRow w.heap.size 5 1 v2 acc2.length (Lib.byteCells acc2) := by rw [ha2]; exact row_str2 (by simp [ByteArray.size]) hh2
            have hac2 : acc2.length ≤ 1048602 := by rw [ha2, List.length_append]; omega
            have HA2 := Lib.hid ha2
            clear HL HM HM1 hh2 gg2 ha2 hown1
            clear hownc hbc hx1 hlen
            have HL : acc2.length + 1 ≤ maxLen := by simp only [maxLen]; omega
            have HM : acc2.length + 1 ≤ 140737488355328 := by omega
            have HM1 : (acc2.length + 1) * 1 ≤ 140737488355328 := by omega
            go_wp2_with (at_builtin; refine wpList_append_own _ rfl (.tmp 57) (.tmp 58) 70 rfl w.heap.size 5 i0 (.int .u8 0) 1 1 Tryz.underlying70 hi hz0 hz1 hz2 rfl (by decide) _ _ _ rfl (hown2.alloc _) ⟨W2.heap.size, 0, none⟩ 1 1 [.int .u8 32] rfl rfl (new_cells W2 5 [.int .u8 32]) (by simp; rfl) HL HM1 ((hb2.alloc hb2.size _).size) ?_)
            intro v3 W3 hh3 gg3 _
            have hb3 : Below w.heap.size w W3 := (hb2.alloc hb2.size _).trans (row_below ((hb2.alloc hb2.size _).size) (hown2.alloc _) gg3)
            obtain ⟨acc3, ha3⟩ : ∃ a, a = acc2 ++ [32] := ⟨_, rfl⟩
            have hown3 : W3.ownsRow w.heap.size 5 1 v3 acc3.length (Lib.byteCells acc3) := by rw [ha3]; exact row_one (d := 32) rfl hh3
            have hac3 : acc3.length ≤ 1048603 := by rw [ha3, List.length_append]; simp only [List.length_cons, List.length_nil]; omega
            have HA3 := Lib.hid ha3
            clear HL HM HM1 hh3 gg3 ha3 hown2
            clear g0 g1 g2 g3 g4 g5
            obtain ⟨ad_, hade, g0, g1, g2, g3, g4, g5⟩ := rule_at (hC.onward hb3) j hjl
            obtain rfl : ad = ad_ := Option.some.inj hade
            clear hade
            go_wp2_with (go_at_call 32; refine (digits_walk _ (by omega) (by omega) _).mono ?_)
            rintro e X3 ⟨rfl, hx3⟩
            have hownc := row_onward hown3 hx3
            have hbc := hb3.trans (hx3.mono hb3.size)
            have hlen := Lib.itoa_length_le l[j].style (by omega) (by omega)
            have HL : acc3.length + (Lib.itoa l[j].style).length ≤ maxLen := by simp only [maxLen]; omega
            have HM : acc3.length + (Lib.itoa l[j].style).length ≤ 140737488355328 := by omega
            have HM1 := HM
            go_wp2_with (at_builtin; refine Lib.wpList_append_own_string _ rfl (.tmp 60) _ 70 9 rfl w.heap.size 5 i0 Tryz.underlying70 Tryz.underlying9 hi hz0 hz1 hz2 _ _ _ rfl hownc _ rfl (show acc3.length + (Lib.itoa l[j].style).length ≤ maxLen from HL) (show acc3.length + (Lib.itoa l[j].style).length ≤ 140737488355328 from HM) hbc.size ?_)
            intro v4 W4 hh4 gg4 _
            have hb4 : Below w.heap.size w W4 := hbc.trans (row_below hbc.size hownc gg4)
            obtain ⟨acc4, ha4⟩ : ∃ a, a = acc3 ++ Lib.itoa l[j].style := ⟨_, rfl⟩
            have hown4 : W4.ownsRow w.heap.size 5 1 v4 acc4.length (Lib.byteCells acc4) := by rw [ha4]; exact row_str2 (by simp [ByteArray.size]) hh4
            have hac4 : acc4.length ≤ 1048624 := by rw [ha4, List.length_append]; omega
            have HA4 := Lib.hid ha4
            clear HL HM HM1 hh4 gg4 ha4 hown3
            clear hownc hbc hx3 hlen
            have HL : acc4.length + 1 ≤ maxLen := by simp only [maxLen]; omega
            have HM : acc4.length + 1 ≤ 140737488355328 := by omega
            have HM1 : (acc4.length + 1) * 1 ≤ 140737488355328 := by omega
            go_wp2_with (at_builtin; refine wpList_append_own _ rfl (.tmp 69) (.tmp 70) 70 rfl w.heap.size 5 i0 (.int .u8 0) 1 1 Tryz.underlying70 hi hz0 hz1 hz2 rfl (by decide) _ _ _ rfl (hown4.alloc _) ⟨W4.heap.size, 0, none⟩ 1 1 [.int .u8 32] rfl rfl (new_cells W4 5 [.int .u8 32]) (by simp; rfl) HL HM1 ((hb4.alloc hb4.size _).size) ?_)
            intro v5 W5 hh5 gg5 _
            have hb5 : Below w.heap.size w W5 := (hb4.alloc hb4.size _).trans (row_below ((hb4.alloc hb4.size _).size) (hown4.alloc _) gg5)
            obtain ⟨acc5, ha5⟩ : ∃ a, a = acc4 ++ [32] := ⟨_, rfl⟩
            have hown5 : W5.ownsRow w.heap.size 5 1 v5 acc5.length (Lib.byteCells acc5) := by rw [ha5]; exact row_one (d := 32) rfl hh5
            have hac5 : acc5.length ≤ 1048625 := by rw [ha5, List.length_append]; simp only [List.length_cons, List.length_nil]; omega
            have HA5 := Lib.hid ha5
            clear HL HM HM1 hh5 gg5 ha5 hown4
            clear g0 g1 g2 g3 g4 g5
            obtain ⟨ad_, hade, g0, g1, g2, g3, g4, g5⟩ := rule_at (hC.onward hb5) j hjl
            obtain rfl : ad = ad_ := Option.some.inj hade
            clear hade
            go_wp2_with (go_at_call 33; refine (rquote_walk l[j].text _ (by omega)).mono ?_)
            rintro e X5 ⟨rfl, hx5⟩
            have hownc := row_onward hown5 hx5
            have hbc := hb5.trans (hx5.mono hb5.size)
            have hlen : (34 :: qs l[j].text.data.toList ++ [34]).length ≤ 4194306 := quoted_le (by omega)
            have HL : acc5.length + (34 :: qs l[j].text.data.toList ++ [34]).length ≤ maxLen := by simp only [maxLen]; omega
            have HM : acc5.length + (34 :: qs l[j].text.data.toList ++ [34]).length ≤ 140737488355328 := by omega
            have HM1 := HM
            go_wp2_with (at_builtin; refine Lib.wpList_append_own_string _ rfl (.tmp 72) _ 70 9 rfl w.heap.size 5 i0 Tryz.underlying70 Tryz.underlying9 hi hz0 hz1 hz2 _ _ _ rfl hownc _ rfl (show acc5.length + (34 :: qs l[j].text.data.toList ++ [34]).length ≤ maxLen from HL) (show acc5.length + (34 :: qs l[j].text.data.toList ++ [34]).length ≤ 140737488355328 from HM) hbc.size ?_)
            intro v6 W6 hh6 gg6 _
            have hb6 : Below w.heap.size w W6 := hbc.trans (row_below hbc.size hownc gg6)
            obtain ⟨acc6, ha6⟩ : ∃ a, a = acc5 ++ (34 :: qs l[j].text.data.toList ++ [34]) := ⟨_, rfl⟩
            have hown6 : W6.ownsRow w.heap.size 5 1 v6 acc6.length (Lib.byteCells acc6) := by rw [ha6]; exact row_str2 (by simp [ByteArray.size]) hh6
            have hac6 : acc6.length ≤ 5242931 := by rw [ha6, List.length_append]; omega
            have HA6 := Lib.hid ha6
            clear HL HM HM1 hh6 gg6 ha6 hown5
            clear hownc hbc hx5 hlen
            clear g0 g1 g2 g3 g4 g5
            obtain ⟨ad_, hade, g0, g1, g2, g3, g4, g5⟩ := rule_at (hC.onward hb6) j hjl
            obtain rfl : ad = ad_ := Option.some.inj hade
            clear hade
            cases hf0 : l[j].plain with
            | true =>
              rw [hf0] at g1
              have HL : acc6.length + 6 ≤ maxLen := by simp only [maxLen]; omega
              have HM : acc6.length + 6 ≤ 140737488355328 := by omega
              have HM1 : (acc6.length + 6) * 1 ≤ 140737488355328 := by omega
              go_wp2_with (at_builtin; refine Lib.wpList_append_own_string _ rfl (.tmp 87) _ 70 9 rfl w.heap.size 5 i0 Tryz.underlying70 Tryz.underlying9 hi hz0 hz1 hz2 _ _ _ rfl hown6 _ rfl (show acc6.length + 6 ≤ maxLen from HL) (show acc6.length + 6 ≤ 140737488355328 from HM) (hb6).size ?_)
              intro v7 W7 hh7 gg7 _
              have hb7 : Below w.heap.size w W7 := hb6.trans (row_below hb6.size hown6 gg7)
              obtain ⟨acc7, ha7⟩ : ∃ a, a = acc6 ++ [32, 112, 108, 97, 105, 110] := ⟨_, rfl⟩
              have hown7 : W7.ownsRow w.heap.size 5 1 v7 acc7.length (Lib.byteCells acc7) := by rw [ha7]; exact row_str hh7
              have hac7 : acc7.length ≤ 5242937 := by rw [ha7, List.length_append]; simp only [List.length_cons, List.length_nil]; omega
              have HA7 := Lib.hid ha7
              clear HL HM HM1 hh7 gg7 ha7 hown6
              clear g0 g1 g2 g3 g4 g5
              obtain ⟨ad_, hade, g0, g1, g2, g3, g4, g5⟩ := rule_at (hC.onward hb7) j hjl
              obtain rfl : ad = ad_ := Option.some.inj hade
              clear hade
              rw [hf0] at g1
              cases hf1 : l[j].fold with
              | true =>
                rw [hf1] at g2
                have HL : acc7.length + 5 ≤ maxLen := by simp only [maxLen]; omega
                have HM : acc7.length + 5 ≤ 140737488355328 := by omega
                have HM1 : (acc7.length + 5) * 1 ≤ 140737488355328 := by omega
                go_wp2_with (at_builtin; refine Lib.wpList_append_own_string _ rfl (.tmp 95) _ 70 9 rfl w.heap.size 5 i0 Tryz.underlying70 Tryz.underlying9 hi hz0 hz1 hz2 _ _ _ rfl hown7 _ rfl (show acc7.length + 5 ≤ maxLen from HL) (show acc7.length + 5 ≤ 140737488355328 from HM) (hb7).size ?_)
                intro v8 W8 hh8 gg8 _
                have hb8 : Below w.heap.size w W8 := hb7.trans (row_below hb7.size hown7 gg8)
                obtain ⟨acc8, ha8⟩ : ∃ a, a = acc7 ++ [32, 102, 111, 108, 100] := ⟨_, rfl⟩
                have hown8 : W8.ownsRow w.heap.size 5 1 v8 acc8.length (Lib.byteCells acc8) := by rw [ha8]; exact row_str hh8
                have hac8 : acc8.length ≤ 5242942 := by rw [ha8, List.length_append]; simp only [List.length_cons, List.length_nil]; omega
                have HA8 := Lib.hid ha8
                clear HL HM HM1 hh8 gg8 ha8 hown7
                clear g0 g1 g2 g3 g4 g5
                obtain ⟨ad_, hade, g0, g1, g2, g3, g4, g5⟩ := rule_at (hC.onward hb8) j hjl
                obtain rfl : ad = ad_ := Option.some.inj hade
                clear hade
                rw [hf0] at g1
                rw [hf1] at g2
                cases hf2 : l[j].word with
                | true =>
                  rw [hf2] at g3
                  have HL : acc8.length + 5 ≤ maxLen := by simp only [maxLen]; omega
                  have HM : acc8.length + 5 ≤ 140737488355328 := by omega
                  have HM1 : (acc8.length + 5) * 1 ≤ 140737488355328 := by omega
                  go_wp2_with (at_builtin; refine Lib.wpList_append_own_string _ rfl (.tmp 103) _ 70 9 rfl w.heap.size 5 i0 Tryz.underlying70 Tryz.underlying9 hi hz0 hz1 hz2 _ _ _ rfl hown8 _ rfl (show acc8.length + 5 ≤ maxLen from HL) (show acc8.length + 5 ≤ 140737488355328 from HM) (hb8).size ?_)
                  intro v9 W9 hh9 gg9 _
                  have hb9 : Below w.heap.size w W9 := hb8.trans (row_below hb8.size hown8 gg9)
                  obtain ⟨acc9, ha9⟩ : ∃ a, a = acc8 ++ [32, 119, 111, 114, 100] := ⟨_, rfl⟩
                  have hown9 : W9.ownsRow w.heap.size 5 1 v9 acc9.length (Lib.byteCells acc9) := by rw [ha9]; exact row_str hh9
                  have hac9 : acc9.length ≤ 5242947 := by rw [ha9, List.length_append]; simp only [List.length_cons, List.length_nil]; omega
                  have HA9 := Lib.hid ha9
                  clear HL HM HM1 hh9 gg9 ha9 hown8
                  clear g0 g1 g2 g3 g4 g5
                  obtain ⟨ad_, hade, g0, g1, g2, g3, g4, g5⟩ := rule_at (hC.onward hb9) j hjl
                  obtain rfl : ad = ad_ := Option.some.inj hade
                  clear hade
                  rw [hf0] at g1
                  rw [hf1] at g2
                  rw [hf2] at g3
                  have HL : acc9.length + 1 ≤ maxLen := by simp only [maxLen]; omega
                  have HM : acc9.length + 1 ≤ 140737488355328 := by omega
                  have HM1 : (acc9.length + 1) * 1 ≤ 140737488355328 := by omega
                  go_wp2_with (at_builtin; refine wpList_append_own _ rfl (.tmp 105) (.tmp 106) 70 rfl w.heap.size 5 i0 (.int .u8 0) 1 1 Tryz.underlying70 hi hz0 hz1 hz2 rfl (by decide) _ _ _ rfl (hown9.alloc _) ⟨W9.heap.size, 0, none⟩ 1 1 [.int .u8 10] rfl rfl (new_cells W9 5 [.int .u8 10]) (by simp; rfl) HL HM1 ((hb9.alloc hb9.size _).size) ?_)
                  intro v10 W10 hh10 gg10 _
                  have hb10 : Below w.heap.size w W10 := (hb9.alloc hb9.size _).trans (row_below ((hb9.alloc hb9.size _).size) (hown9.alloc _) gg10)
                  obtain ⟨acc10, ha10⟩ : ∃ a, a = acc9 ++ [10] := ⟨_, rfl⟩
                  have hown10 : W10.ownsRow w.heap.size 5 1 v10 acc10.length (Lib.byteCells acc10) := by rw [ha10]; exact row_one (d := 10) rfl hh10
                  have hac10 : acc10.length ≤ 5242948 := by rw [ha10, List.length_append]; simp only [List.length_cons, List.length_nil]; omega
                  have HA10 := Lib.hid ha10
                  clear HL HM HM1 hh10 gg10 ha10 hown9
                  go_wp2
                  go_roundw
                  case rel =>
                    refine ⟨j + 1, acc10, by omega, by go_num, Lib.hid ?_, by omega, hown10, hb10⟩
                    rw [← goP_next hjl h1m hgo.out]
                    rw [HA10.out, HA9.out, HA8.out, HA7.out, HA6.out, HA5.out, HA4.out, HA3.out, HA2.out, HA1.out]
                    simp [lineOf, headOf, flagsOf, hf0, hf1, hf2, List.append_assoc]
                  case measure => simp [intOf]; omega
                | false =>
                  rw [hf2] at g3
                  have HL : acc8.length + 1 ≤ maxLen := by simp only [maxLen]; omega
                  have HM : acc8.length + 1 ≤ 140737488355328 := by omega
                  have HM1 : (acc8.length + 1) * 1 ≤ 140737488355328 := by omega
                  go_wp2_with (at_builtin; refine wpList_append_own _ rfl (.tmp 105) (.tmp 106) 70 rfl w.heap.size 5 i0 (.int .u8 0) 1 1 Tryz.underlying70 hi hz0 hz1 hz2 rfl (by decide) _ _ _ rfl (hown8.alloc _) ⟨W8.heap.size, 0, none⟩ 1 1 [.int .u8 10] rfl rfl (new_cells W8 5 [.int .u8 10]) (by simp; rfl) HL HM1 ((hb8.alloc hb8.size _).size) ?_)
                  intro v9 W9 hh9 gg9 _
                  have hb9 : Below w.heap.size w W9 := (hb8.alloc hb8.size _).trans (row_below ((hb8.alloc hb8.size _).size) (hown8.alloc _) gg9)
                  obtain ⟨acc9, ha9⟩ : ∃ a, a = acc8 ++ [10] := ⟨_, rfl⟩
                  have hown9 : W9.ownsRow w.heap.size 5 1 v9 acc9.length (Lib.byteCells acc9) := by rw [ha9]; exact row_one (d := 10) rfl hh9
                  have hac9 : acc9.length ≤ 5242943 := by rw [ha9, List.length_append]; simp only [List.length_cons, List.length_nil]; omega
                  have HA9 := Lib.hid ha9
                  clear HL HM HM1 hh9 gg9 ha9 hown8
                  go_wp2
                  go_roundw
                  case rel =>
                    refine ⟨j + 1, acc9, by omega, by go_num, Lib.hid ?_, by omega, hown9, hb9⟩
                    rw [← goP_next hjl h1m hgo.out]
                    rw [HA9.out, HA8.out, HA7.out, HA6.out, HA5.out, HA4.out, HA3.out, HA2.out, HA1.out]
                    simp [lineOf, headOf, flagsOf, hf0, hf1, hf2, List.append_assoc]
                  case measure => simp [intOf]; omega
              | false =>
                rw [hf1] at g2
                cases hf2 : l[j].word with
                | true =>
                  rw [hf2] at g3
                  have HL : acc7.length + 5 ≤ maxLen := by simp only [maxLen]; omega
                  have HM : acc7.length + 5 ≤ 140737488355328 := by omega
                  have HM1 : (acc7.length + 5) * 1 ≤ 140737488355328 := by omega
                  go_wp2_with (at_builtin; refine Lib.wpList_append_own_string _ rfl (.tmp 103) _ 70 9 rfl w.heap.size 5 i0 Tryz.underlying70 Tryz.underlying9 hi hz0 hz1 hz2 _ _ _ rfl hown7 _ rfl (show acc7.length + 5 ≤ maxLen from HL) (show acc7.length + 5 ≤ 140737488355328 from HM) (hb7).size ?_)
                  intro v8 W8 hh8 gg8 _
                  have hb8 : Below w.heap.size w W8 := hb7.trans (row_below hb7.size hown7 gg8)
                  obtain ⟨acc8, ha8⟩ : ∃ a, a = acc7 ++ [32, 119, 111, 114, 100] := ⟨_, rfl⟩
                  have hown8 : W8.ownsRow w.heap.size 5 1 v8 acc8.length (Lib.byteCells acc8) := by rw [ha8]; exact row_str hh8
                  have hac8 : acc8.length ≤ 5242942 := by rw [ha8, List.length_append]; simp only [List.length_cons, List.length_nil]; omega
                  have HA8 := Lib.hid ha8
                  clear HL HM HM1 hh8 gg8 ha8 hown7
                  clear g0 g1 g2 g3 g4 g5
                  obtain ⟨ad_, hade, g0, g1, g2, g3, g4, g5⟩ := rule_at (hC.onward hb8) j hjl
                  obtain rfl : ad = ad_ := Option.some.inj hade
                  clear hade
                  rw [hf0] at g1
                  rw [hf1] at g2
                  rw [hf2] at g3
                  have HL : acc8.length + 1 ≤ maxLen := by simp only [maxLen]; omega
                  have HM : acc8.length + 1 ≤ 140737488355328 := by omega
                  have HM1 : (acc8.length + 1) * 1 ≤ 140737488355328 := by omega
                  go_wp2_with (at_builtin; refine wpList_append_own _ rfl (.tmp 105) (.tmp 106) 70 rfl w.heap.size 5 i0 (.int .u8 0) 1 1 Tryz.underlying70 hi hz0 hz1 hz2 rfl (by decide) _ _ _ rfl (hown8.alloc _) ⟨W8.heap.size, 0, none⟩ 1 1 [.int .u8 10] rfl rfl (new_cells W8 5 [.int .u8 10]) (by simp; rfl) HL HM1 ((hb8.alloc hb8.size _).size) ?_)
                  intro v9 W9 hh9 gg9 _
                  have hb9 : Below w.heap.size w W9 := (hb8.alloc hb8.size _).trans (row_below ((hb8.alloc hb8.size _).size) (hown8.alloc _) gg9)
                  obtain ⟨acc9, ha9⟩ : ∃ a, a = acc8 ++ [10] := ⟨_, rfl⟩
                  have hown9 : W9.ownsRow w.heap.size 5 1 v9 acc9.length (Lib.byteCells acc9) := by rw [ha9]; exact row_one (d := 10) rfl hh9
                  have hac9 : acc9.length ≤ 5242943 := by rw [ha9, List.length_append]; simp only [List.length_cons, List.length_nil]; omega
                  have HA9 := Lib.hid ha9
                  clear HL HM HM1 hh9 gg9 ha9 hown8
                  go_wp2
                  go_roundw
                  case rel =>
                    refine ⟨j + 1, acc9, by omega, by go_num, Lib.hid ?_, by omega, hown9, hb9⟩
                    rw [← goP_next hjl h1m hgo.out]
                    rw [HA9.out, HA8.out, HA7.out, HA6.out, HA5.out, HA4.out, HA3.out, HA2.out, HA1.out]
                    simp [lineOf, headOf, flagsOf, hf0, hf1, hf2, List.append_assoc]
                  case measure => simp [intOf]; omega
                | false =>
                  rw [hf2] at g3
                  have HL : acc7.length + 1 ≤ maxLen := by simp only [maxLen]; omega
                  have HM : acc7.length + 1 ≤ 140737488355328 := by omega
                  have HM1 : (acc7.length + 1) * 1 ≤ 140737488355328 := by omega
                  go_wp2_with (at_builtin; refine wpList_append_own _ rfl (.tmp 105) (.tmp 106) 70 rfl w.heap.size 5 i0 (.int .u8 0) 1 1 Tryz.underlying70 hi hz0 hz1 hz2 rfl (by decide) _ _ _ rfl (hown7.alloc _) ⟨W7.heap.size, 0, none⟩ 1 1 [.int .u8 10] rfl rfl (new_cells W7 5 [.int .u8 10]) (by simp; rfl) HL HM1 ((hb7.alloc hb7.size _).size) ?_)
                  intro v8 W8 hh8 gg8 _
                  have hb8 : Below w.heap.size w W8 := (hb7.alloc hb7.size _).trans (row_below ((hb7.alloc hb7.size _).size) (hown7.alloc _) gg8)
                  obtain ⟨acc8, ha8⟩ : ∃ a, a = acc7 ++ [10] := ⟨_, rfl⟩
                  have hown8 : W8.ownsRow w.heap.size 5 1 v8 acc8.length (Lib.byteCells acc8) := by rw [ha8]; exact row_one (d := 10) rfl hh8
                  have hac8 : acc8.length ≤ 5242938 := by rw [ha8, List.length_append]; simp only [List.length_cons, List.length_nil]; omega
                  have HA8 := Lib.hid ha8
                  clear HL HM HM1 hh8 gg8 ha8 hown7
                  go_wp2
                  go_roundw
                  case rel =>
                    refine ⟨j + 1, acc8, by omega, by go_num, Lib.hid ?_, by omega, hown8, hb8⟩
                    rw [← goP_next hjl h1m hgo.out]
                    rw [HA8.out, HA7.out, HA6.out, HA5.out, HA4.out, HA3.out, HA2.out, HA1.out]
                    simp [lineOf, headOf, flagsOf, hf0, hf1, hf2, List.append_assoc]
                  case measure => simp [intOf]; omega
            | false =>
              rw [hf0] at g1
              cases hf1 : l[j].fold with
              | true =>
                rw [hf1] at g2
                have HL : acc6.length + 5 ≤ maxLen := by simp only [maxLen]; omega
                have HM : acc6.length + 5 ≤ 140737488355328 := by omega
                have HM1 : (acc6.length + 5) * 1 ≤ 140737488355328 := by omega
                go_wp2_with (at_builtin; refine Lib.wpList_append_own_string _ rfl (.tmp 95) _ 70 9 rfl w.heap.size 5 i0 Tryz.underlying70 Tryz.underlying9 hi hz0 hz1 hz2 _ _ _ rfl hown6 _ rfl (show acc6.length + 5 ≤ maxLen from HL) (show acc6.length + 5 ≤ 140737488355328 from HM) (hb6).size ?_)
                intro v7 W7 hh7 gg7 _
                have hb7 : Below w.heap.size w W7 := hb6.trans (row_below hb6.size hown6 gg7)
                obtain ⟨acc7, ha7⟩ : ∃ a, a = acc6 ++ [32, 102, 111, 108, 100] := ⟨_, rfl⟩
                have hown7 : W7.ownsRow w.heap.size 5 1 v7 acc7.length (Lib.byteCells acc7) := by rw [ha7]; exact row_str hh7
                have hac7 : acc7.length ≤ 5242936 := by rw [ha7, List.length_append]; simp only [List.length_cons, List.length_nil]; omega
                have HA7 := Lib.hid ha7
                clear HL HM HM1 hh7 gg7 ha7 hown6
                clear g0 g1 g2 g3 g4 g5
                obtain ⟨ad_, hade, g0, g1, g2, g3, g4, g5⟩ := rule_at (hC.onward hb7) j hjl
                obtain rfl : ad = ad_ := Option.some.inj hade
                clear hade
                rw [hf0] at g1
                rw [hf1] at g2
                cases hf2 : l[j].word with
                | true =>
                  rw [hf2] at g3
                  have HL : acc7.length + 5 ≤ maxLen := by simp only [maxLen]; omega
                  have HM : acc7.length + 5 ≤ 140737488355328 := by omega
                  have HM1 : (acc7.length + 5) * 1 ≤ 140737488355328 := by omega
                  go_wp2_with (at_builtin; refine Lib.wpList_append_own_string _ rfl (.tmp 103) _ 70 9 rfl w.heap.size 5 i0 Tryz.underlying70 Tryz.underlying9 hi hz0 hz1 hz2 _ _ _ rfl hown7 _ rfl (show acc7.length + 5 ≤ maxLen from HL) (show acc7.length + 5 ≤ 140737488355328 from HM) (hb7).size ?_)
                  intro v8 W8 hh8 gg8 _
                  have hb8 : Below w.heap.size w W8 := hb7.trans (row_below hb7.size hown7 gg8)
                  obtain ⟨acc8, ha8⟩ : ∃ a, a = acc7 ++ [32, 119, 111, 114, 100] := ⟨_, rfl⟩
                  have hown8 : W8.ownsRow w.heap.size 5 1 v8 acc8.length (Lib.byteCells acc8) := by rw [ha8]; exact row_str hh8
                  have hac8 : acc8.length ≤ 5242941 := by rw [ha8, List.length_append]; simp only [List.length_cons, List.length_nil]; omega
                  have HA8 := Lib.hid ha8
                  clear HL HM HM1 hh8 gg8 ha8 hown7
                  clear g0 g1 g2 g3 g4 g5
                  obtain ⟨ad_, hade, g0, g1, g2, g3, g4, g5⟩ := rule_at (hC.onward hb8) j hjl
                  obtain rfl : ad = ad_ := Option.some.inj hade
                  clear hade
                  rw [hf0] at g1
                  rw [hf1] at g2
                  rw [hf2] at g3
                  have HL : acc8.length + 1 ≤ maxLen := by simp only [maxLen]; omega
                  have HM : acc8.length + 1 ≤ 140737488355328 := by omega
                  have HM1 : (acc8.length + 1) * 1 ≤ 140737488355328 := by omega
                  go_wp2_with (at_builtin; refine wpList_append_own _ rfl (.tmp 105) (.tmp 106) 70 rfl w.heap.size 5 i0 (.int .u8 0) 1 1 Tryz.underlying70 hi hz0 hz1 hz2 rfl (by decide) _ _ _ rfl (hown8.alloc _) ⟨W8.heap.size, 0, none⟩ 1 1 [.int .u8 10] rfl rfl (new_cells W8 5 [.int .u8 10]) (by simp; rfl) HL HM1 ((hb8.alloc hb8.size _).size) ?_)
                  intro v9 W9 hh9 gg9 _
                  have hb9 : Below w.heap.size w W9 := (hb8.alloc hb8.size _).trans (row_below ((hb8.alloc hb8.size _).size) (hown8.alloc _) gg9)
                  obtain ⟨acc9, ha9⟩ : ∃ a, a = acc8 ++ [10] := ⟨_, rfl⟩
                  have hown9 : W9.ownsRow w.heap.size 5 1 v9 acc9.length (Lib.byteCells acc9) := by rw [ha9]; exact row_one (d := 10) rfl hh9
                  have hac9 : acc9.length ≤ 5242942 := by rw [ha9, List.length_append]; simp only [List.length_cons, List.length_nil]; omega
                  have HA9 := Lib.hid ha9
                  clear HL HM HM1 hh9 gg9 ha9 hown8
                  go_wp2
                  go_roundw
                  case rel =>
                    refine ⟨j + 1, acc9, by omega, by go_num, Lib.hid ?_, by omega, hown9, hb9⟩
                    rw [← goP_next hjl h1m hgo.out]
                    rw [HA9.out, HA8.out, HA7.out, HA6.out, HA5.out, HA4.out, HA3.out, HA2.out, HA1.out]
                    simp [lineOf, headOf, flagsOf, hf0, hf1, hf2, List.append_assoc]
                  case measure => simp [intOf]; omega
                | false =>
                  rw [hf2] at g3
                  have HL : acc7.length + 1 ≤ maxLen := by simp only [maxLen]; omega
                  have HM : acc7.length + 1 ≤ 140737488355328 := by omega
                  have HM1 : (acc7.length + 1) * 1 ≤ 140737488355328 := by omega
                  go_wp2_with (at_builtin; refine wpList_append_own _ rfl (.tmp 105) (.tmp 106) 70 rfl w.heap.size 5 i0 (.int .u8 0) 1 1 Tryz.underlying70 hi hz0 hz1 hz2 rfl (by decide) _ _ _ rfl (hown7.alloc _) ⟨W7.heap.size, 0, none⟩ 1 1 [.int .u8 10] rfl rfl (new_cells W7 5 [.int .u8 10]) (by simp; rfl) HL HM1 ((hb7.alloc hb7.size _).size) ?_)
                  intro v8 W8 hh8 gg8 _
                  have hb8 : Below w.heap.size w W8 := (hb7.alloc hb7.size _).trans (row_below ((hb7.alloc hb7.size _).size) (hown7.alloc _) gg8)
                  obtain ⟨acc8, ha8⟩ : ∃ a, a = acc7 ++ [10] := ⟨_, rfl⟩
                  have hown8 : W8.ownsRow w.heap.size 5 1 v8 acc8.length (Lib.byteCells acc8) := by rw [ha8]; exact row_one (d := 10) rfl hh8
                  have hac8 : acc8.length ≤ 5242937 := by rw [ha8, List.length_append]; simp only [List.length_cons, List.length_nil]; omega
                  have HA8 := Lib.hid ha8
                  clear HL HM HM1 hh8 gg8 ha8 hown7
                  go_wp2
                  go_roundw
                  case rel =>
                    refine ⟨j + 1, acc8, by omega, by go_num, Lib.hid ?_, by omega, hown8, hb8⟩
                    rw [← goP_next hjl h1m hgo.out]
                    rw [HA8.out, HA7.out, HA6.out, HA5.out, HA4.out, HA3.out, HA2.out, HA1.out]
                    simp [lineOf, headOf, flagsOf, hf0, hf1, hf2, List.append_assoc]
                  case measure => simp [intOf]; omega
              | false =>
                rw [hf1] at g2
                cases hf2 : l[j].word with
                | true =>
                  rw [hf2] at g3
                  have HL : acc6.length + 5 ≤ maxLen := by simp only [maxLen]; omega
                  have HM : acc6.length + 5 ≤ 140737488355328 := by omega
                  have HM1 : (acc6.length + 5) * 1 ≤ 140737488355328 := by omega
                  go_wp2_with (at_builtin; refine Lib.wpList_append_own_string _ rfl (.tmp 103) _ 70 9 rfl w.heap.size 5 i0 Tryz.underlying70 Tryz.underlying9 hi hz0 hz1 hz2 _ _ _ rfl hown6 _ rfl (show acc6.length + 5 ≤ maxLen from HL) (show acc6.length + 5 ≤ 140737488355328 from HM) (hb6).size ?_)
                  intro v7 W7 hh7 gg7 _
                  have hb7 : Below w.heap.size w W7 := hb6.trans (row_below hb6.size hown6 gg7)
                  obtain ⟨acc7, ha7⟩ : ∃ a, a = acc6 ++ [32, 119, 111, 114, 100] := ⟨_, rfl⟩
                  have hown7 : W7.ownsRow w.heap.size 5 1 v7 acc7.length (Lib.byteCells acc7) := by rw [ha7]; exact row_str hh7
                  have hac7 : acc7.length ≤ 5242936 := by rw [ha7, List.length_append]; simp only [List.length_cons, List.length_nil]; omega
                  have HA7 := Lib.hid ha7
                  clear HL HM HM1 hh7 gg7 ha7 hown6
                  clear g0 g1 g2 g3 g4 g5
                  obtain ⟨ad_, hade, g0, g1, g2, g3, g4, g5⟩ := rule_at (hC.onward hb7) j hjl
                  obtain rfl : ad = ad_ := Option.some.inj hade
                  clear hade
                  rw [hf0] at g1
                  rw [hf1] at g2
                  rw [hf2] at g3
                  have HL : acc7.length + 1 ≤ maxLen := by simp only [maxLen]; omega
                  have HM : acc7.length + 1 ≤ 140737488355328 := by omega
                  have HM1 : (acc7.length + 1) * 1 ≤ 140737488355328 := by omega
                  go_wp2_with (at_builtin; refine wpList_append_own _ rfl (.tmp 105) (.tmp 106) 70 rfl w.heap.size 5 i0 (.int .u8 0) 1 1 Tryz.underlying70 hi hz0 hz1 hz2 rfl (by decide) _ _ _ rfl (hown7.alloc _) ⟨W7.heap.size, 0, none⟩ 1 1 [.int .u8 10] rfl rfl (new_cells W7 5 [.int .u8 10]) (by simp; rfl) HL HM1 ((hb7.alloc hb7.size _).size) ?_)
                  intro v8 W8 hh8 gg8 _
                  have hb8 : Below w.heap.size w W8 := (hb7.alloc hb7.size _).trans (row_below ((hb7.alloc hb7.size _).size) (hown7.alloc _) gg8)
                  obtain ⟨acc8, ha8⟩ : ∃ a, a = acc7 ++ [10] := ⟨_, rfl⟩
                  have hown8 : W8.ownsRow w.heap.size 5 1 v8 acc8.length (Lib.byteCells acc8) := by rw [ha8]; exact row_one (d := 10) rfl hh8
                  have hac8 : acc8.length ≤ 5242937 := by rw [ha8, List.length_append]; simp only [List.length_cons, List.length_nil]; omega
                  have HA8 := Lib.hid ha8
                  clear HL HM HM1 hh8 gg8 ha8 hown7
                  go_wp2
                  go_roundw
                  case rel =>
                    refine ⟨j + 1, acc8, by omega, by go_num, Lib.hid ?_, by omega, hown8, hb8⟩
                    rw [← goP_next hjl h1m hgo.out]
                    rw [HA8.out, HA7.out, HA6.out, HA5.out, HA4.out, HA3.out, HA2.out, HA1.out]
                    simp [lineOf, headOf, flagsOf, hf0, hf1, hf2, List.append_assoc]
                  case measure => simp [intOf]; omega
                | false =>
                  rw [hf2] at g3
                  have HL : acc6.length + 1 ≤ maxLen := by simp only [maxLen]; omega
                  have HM : acc6.length + 1 ≤ 140737488355328 := by omega
                  have HM1 : (acc6.length + 1) * 1 ≤ 140737488355328 := by omega
                  go_wp2_with (at_builtin; refine wpList_append_own _ rfl (.tmp 105) (.tmp 106) 70 rfl w.heap.size 5 i0 (.int .u8 0) 1 1 Tryz.underlying70 hi hz0 hz1 hz2 rfl (by decide) _ _ _ rfl (hown6.alloc _) ⟨W6.heap.size, 0, none⟩ 1 1 [.int .u8 10] rfl rfl (new_cells W6 5 [.int .u8 10]) (by simp; rfl) HL HM1 ((hb6.alloc hb6.size _).size) ?_)
                  intro v7 W7 hh7 gg7 _
                  have hb7 : Below w.heap.size w W7 := (hb6.alloc hb6.size _).trans (row_below ((hb6.alloc hb6.size _).size) (hown6.alloc _) gg7)
                  obtain ⟨acc7, ha7⟩ : ∃ a, a = acc6 ++ [10] := ⟨_, rfl⟩
                  have hown7 : W7.ownsRow w.heap.size 5 1 v7 acc7.length (Lib.byteCells acc7) := by rw [ha7]; exact row_one (d := 10) rfl hh7
                  have hac7 : acc7.length ≤ 5242932 := by rw [ha7, List.length_append]; simp only [List.length_cons, List.length_nil]; omega
                  have HA7 := Lib.hid ha7
                  clear HL HM HM1 hh7 gg7 ha7 hown6
                  go_wp2
                  go_roundw
                  case rel =>
                    refine ⟨j + 1, acc7, by omega, by go_num, Lib.hid ?_, by omega, hown7, hb7⟩
                    rw [← goP_next hjl h1m hgo.out]
                    rw [HA7.out, HA6.out, HA5.out, HA4.out, HA3.out, HA2.out, HA1.out]
                    simp [lineOf, headOf, flagsOf, hf0, hf1, hf2, List.append_assoc]
                  case measure => simp [intOf]; omega
        · have hjj : j = l.length := by omega
          have hfin : Hid (printP l = if 1048576 < acc.length then ([], 3) else (acc, 0)) := Lib.hid (by
            rw [hpp.out, ← hgo.out, hjj, List.drop_length]
            rfl)
          clear hgo hpp hjj
          obtain ⟨a, cap, rfl, hcv⟩ := conv_any hown
          by_cases h1m : 1048576 < acc.length
          · have hd : decide ((1048576 : Int) < (acc.length : Int)) = true := decide_eq_true (by omega)
            have hd' : decide (1048576 < acc.length) = true := decide_eq_true (by omega)
            go_wp2
            go_ret2
            rw [hfin.out, if_pos h1m]
            exact ⟨rfl, hbx⟩
          · have hd : decide ((1048576 : Int) < (acc.length : Int)) = false := decide_eq_false (by omega)
            have hd' : decide (1048576 < acc.length) = false := decide_eq_false (by omega)
            go_wp2
            go_ret2
            rw [hfin.out, if_neg h1m]
            exact ⟨rfl, hbx⟩
end Go.Proofs.YtaipemiaphpojaaGreatDoor
