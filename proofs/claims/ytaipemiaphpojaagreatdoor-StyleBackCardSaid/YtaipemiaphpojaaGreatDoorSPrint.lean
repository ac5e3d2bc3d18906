/- style.Print: what it writes. -/
import Derived.Test.YtaipemiaphpojaaGreatDoorKeep
import Derived.Lib.ItoaLen
import Derived.Deep.RegionHeld3
import Derived.Deep.QuietTactic
import Derived.BigQuiet
import Derived.IntWalk
namespace Go.Proofs.YtaipemiaphpojaaGreatDoor
open Go Go.Proofs Go.RowKit
def rankOut (x : Rl) : Bool := decide (x.rank < -2147483648) || decide (2147483647 < x.rank)
def flagsOf (r : Rl) : List UInt8 := (if r.plain = true then [32, 112, 108, 97, 105, 110] else []) ++ (if r.fold = true then [32, 102, 111, 108, 100] else []) ++ (if r.word = true then [32, 119, 111, 114, 100] else [])
def headOf (r : Rl) : List UInt8 := [114, 117, 108, 101, 32] ++ Lib.itoa r.rank ++ [32] ++ Lib.itoa r.style ++ [32]
def lineOf (r : Rl) : List UInt8 := headOf r ++ (34 :: qs r.text.data.toList ++ [34]) ++ flagsOf r ++ [10]
def goP : List Rl → List UInt8 → List UInt8 × Int
  | [], acc => if 1048576 < acc.length then ([], 3) else (acc, 0)
  | r :: rs, acc => if 1048576 < acc.length + r.text.size then ([], 3) else goP rs (acc ++ lineOf r)
def printP (l : List Rl) : List UInt8 × Int :=
  if 64 < l.length then ([], 3) else if l.any rankOut = true then ([], 230) else goP l []
def Box (w : World) (n : Nat) (r : Rl) : Prop := w.heap[n]? = some (.cells r.cells.toArray 33 (0, 0))
/-- A rule's numbers are of their kinds. -/
def Rl.ok (r : Rl) : Prop := 0 ≤ r.style ∧ r.style ≤ 65535 ∧ r.text.size ≤ 140737488351232
theorem cell_box {w : World} {n : Nat} {c : Array Value} {v : Value} (h : w.heap[n]? = some (.cells c 33 (0, 0))) (hv : c[0]? = some v := by rfl) : w.cell? ⟨n, 0, none⟩ = some v := by
  simp [World.cell?, h, hv]
theorem goP_cons {l : List Rl} {j : Nat} {acc : List UInt8} (h : j < l.length) : goP (l.drop j) acc = if 1048576 < acc.length + l[j].text.size then ([], 3) else goP (l.drop (j + 1)) (acc ++ lineOf l[j]) := by
  rw [List.drop_eq_getElem_cons h]
  rfl
theorem goP_long {l : List Rl} {j : Nat} {acc : List UInt8} (h : j < l.length) (hg : goP (l.drop j) acc = goP l []) (h1 : 1048576 < acc.length + l[j].text.size) : goP l [] = ([], 3) := by
  rw [← hg, goP_cons h, if_pos h1]
theorem rank_in {r : Rl} (h : rankOut r = false) : -2147483648 ≤ r.rank ∧ r.rank ≤ 2147483647 := by
  simp [rankOut] at h
  omega
theorem lt_of_heap {w : World} {n : Nat} {o : Obj} (h : w.heap[n]? = some o) : n < w.heap.size := (Array.getElem?_eq_some_iff.1 h).1
theorem box_cell {w : World} {n : Nat} {c : Array Value} (h : w.heap[n]? = some (.cells c 33 (0, 0))) (i : Nat) {v : Value} (hv : c[i]? = some v) : w.cell? ⟨n, i, none⟩ = some v := by
  simp [World.cell?, h, hv]
/-- The first m of the flags. -/
def flagsTo (r : Rl) (m : Nat) : List UInt8 :=
  (if 0 < m ∧ r.plain = true then [32, 112, 108, 97, 105, 110] else []) ++ (if 1 < m ∧ r.fold = true then [32, 102, 111, 108, 100] else []) ++ (if 2 < m ∧ r.word = true then [32, 119, 111, 114, 100] else [])
theorem flagsTo_le (r : Rl) (m : Nat) : (flagsTo r m).length ≤ 16 := by unfold flagsTo; (repeat' split) <;> simp
theorem flagsTo_all (r : Rl) : flagsTo r 3 = flagsOf r := by simp [flagsTo, flagsOf]
def wdOf (m : Nat) : ByteArray := if m = 0 then ⟨#[32, 112, 108, 97, 105, 110]⟩ else if m = 1 then ⟨#[32, 102, 111, 108, 100]⟩ else ⟨#[32, 119, 111, 114, 100]⟩
def fOf (r : Rl) (m : Nat) : Bool := if m = 0 then r.plain else if m = 1 then r.fold else r.word
theorem wdOf_le (m : Nat) : (wdOf m).size ≤ 6 := by unfold wdOf; (repeat' split) <;> decide
theorem flag_word {w : World} {n m : Nat} {r : Rl} (h : w.heap[n]? = some (.cells #[.string ⟨#[32, 112, 108, 97, 105, 110]⟩, .bool r.plain, .string ⟨#[32, 102, 111, 108, 100]⟩, .bool r.fold, .string ⟨#[32, 119, 111, 114, 100]⟩, .bool r.word] 78 (0, 0))) (hm : m < 3) :
    w.cell? ⟨n, m * 2, none⟩ = some (.string (wdOf m)) := by
  match m, hm with
  | 0, _ => simp [World.cell?, h, wdOf]
  | 1, _ => simp [World.cell?, h, wdOf]
  | 2, _ => simp [World.cell?, h, wdOf]
theorem flag_is {w : World} {n m : Nat} {r : Rl} (h : w.heap[n]? = some (.cells #[.string ⟨#[32, 112, 108, 97, 105, 110]⟩, .bool r.plain, .string ⟨#[32, 102, 111, 108, 100]⟩, .bool r.fold, .string ⟨#[32, 119, 111, 114, 100]⟩, .bool r.word] 78 (0, 0))) (hm : m < 3) :
    w.cell? ⟨n, m * 2 + 1, none⟩ = some (.bool (fOf r m)) := by
  match m, hm with
  | 0, _ => simp [World.cell?, h, fOf]
  | 1, _ => simp [World.cell?, h, fOf]
  | 2, _ => simp [World.cell?, h, fOf]
theorem flags_step (r : Rl) (m : Nat) (hm : m < 3) : flagsTo r (m + 1) = flagsTo r m ++ (if fOf r m = true then (wdOf m).data.toList else []) := by
  match m, hm with
  | 0, _ => simp [flagsTo, fOf, wdOf]
  | 1, _ => simp [flagsTo, fOf, wdOf]
  | 2, _ => simp [flagsTo, fOf, wdOf]
theorem any_of_at {l : List Rl} {k : Nat} (h : k < l.length) (hr : rankOut l[k] = true) : l.any rankOut = true := List.any_eq_true.2 ⟨l[k], List.getElem_mem h, hr⟩
theorem printP_out {l : List Rl} (h64 : ¬ 64 < l.length) (h : l.any rankOut = true) : printP l = ([], 230) := by unfold printP; rw [if_neg h64, if_pos h]
theorem printP_go {l : List Rl} (h64 : ¬ 64 < l.length) (h : ∀ x ∈ l, rankOut x = false) : printP l = goP l [] := by
  have : l.any rankOut = false := by rw [List.any_eq_false]; intro x hx; rw [h x hx]; simp
  unfold printP
  rw [if_neg h64, this]
  simp
theorem take_out {l : List Rl} {k : Nat} (h : k < l.length) (ha : ∀ x ∈ l.take k, rankOut x = false) (hr : rankOut l[k] = false) : ∀ x ∈ l.take (k + 1), rankOut x = false := by
  intro x hx
  rw [List.take_succ_eq_append_getElem h, List.mem_append] at hx
  rcases hx with hx | hx
  · exact ha x hx
  · rw [List.mem_singleton.1 hx]; exact hr
set_option maxHeartbeats 4000000 in
set_option maxRecDepth 1000000 in
theorem print_walk (A : Option Addr) (c : Nat) (l : List Rl) (w : World) (hC : RulesAt w A l) (hc : l.length ≤ c) (hk : ∀ r ∈ l, r.ok) (ht : Lib.TabBelow Tryz.prog w.heap.size w "internal/strconv.uint64pow10" .u64 Lib.pow10Tab) :
    Calls Tryz.prog 11 #[.slice A l.length c] w fun e w' => e = .returned (.tuple #[.string ⟨(printP l).1.toArray⟩, .int .i64 (printP l).2]) ∧ Below w.heap.size w w' := by
  by_cases h64 : 64 < l.length
  · have hp : printP l = ([], 3) := by unfold printP; rw [if_pos h64]
    rw [hp]
    clear hp
    go_enter Tryz.func11, Tryz.ntmps11
    go_wp2
    go_ret2
    exact ⟨rfl, Below.refl _ _⟩
  have HK := Lib.hid hk
  clear hk
  go_enter Tryz.func11, Tryz.ntmps11
  go_wp2
  go_loopw [16] (fun i wr => ∃ k : Nat, k ≤ l.length ∧ i = .int .i64 k ∧ Hid (∀ x ∈ l.take k, rankOut x = false) ∧ Below w.heap.size w wr) (fun i _ => l.length - (intOf i).toNat)
  case atStart => exact ⟨0, Nat.zero_le _, rfl, Lib.hid (by simp), Below.refl _ _⟩
  case round =>
    obtain ⟨k, hk, rfl, hal, hb⟩ := hrel
    by_cases hlt : k < l.length
    · obtain ⟨ad, rfl, g0, g1, g2, g3, g4, g5⟩ := rule_at (hC.onward hb) k hlt
      go_wp2_with fail
      · go_ret2
        rw [printP_out h64 (any_of_at hlt (by simp [rankOut]; omega))]
        exact ⟨rfl, hb.alloc hb.size _⟩
      · go_roundw
        case rel => exact ⟨k + 1, by omega, by go_num, Lib.hid (take_out hlt hal.out (by simp [rankOut]; omega)), hb.alloc hb.size _⟩
        case measure => simp [intOf]; omega
      · go_ret2
        rw [printP_out h64 (any_of_at hlt (by simp [rankOut]; omega))]
        exact ⟨rfl, hb.alloc hb.size _⟩
    · have hall : Hid (∀ x ∈ l, rankOut x = false) := Lib.hid (fun x hx => hal.out x (by rw [List.take_of_length_le (by omega)]; exact hx))
      have hpp : Hid (printP l = goP l []) := Lib.hid (printP_go h64 hall.out)
      clear hal
      obtain ⟨w1, rfl⟩ : ∃ w1, w1 = wr := ⟨_, rfl⟩
      go_wp2
      go_loopw [31] (fun i wx => ∃ (k : Nat) (acc : List UInt8), k ≤ l.length ∧ i = .int .i64 k ∧ Hid (goP (l.drop k) acc = goP l []) ∧ acc.length ≤ 6291456 ∧ Lib.IsBuilderF 72 5 w1.heap.size w1.heap.size (Lib.byteCells acc) wx ∧ Below w.heap.size w wx ∧ w1.heap.size < wx.heap.size) (fun i _ => l.length - (intOf i).toNat)
      case atStart => exact ⟨0, [], Nat.zero_le _, rfl, Lib.hid rfl, by simp, Lib.IsBuilderF.of (Lib.fresh_isBuilder 72 5 w1), hb.alloc hb.size _, by simp⟩
      case round =>
        obtain ⟨j, acc, hj, rfl, hgo, hacc, hI, hbx, hsx⟩ := hrel
        by_cases hjl : j < l.length
        · obtain ⟨ad, rfl, g0, g1, g2, g3, g4, g5⟩ := rule_at (hC.onward hbx) j hjl
          have hI8 := hI.alloc (.cells #[.string l[j].text, .bool l[j].plain, .bool l[j].fold, .bool l[j].word, .int .u16 l[j].style, .int .i64 l[j].rank] 33)
          go_wp2_with fail
          generalize hW8 : wr.alloc (.cells #[.string l[j].text, .bool l[j].plain, .bool l[j].fold, .bool l[j].word, .int .u16 l[j].style, .int .i64 l[j].rank] 33) = W8 at hI8 ⊢
          have hx8 : W8.heap[wr.heap.size]? = some (.cells #[.string l[j].text, .bool l[j].plain, .bool l[j].fold, .bool l[j].word, .int .u16 l[j].style, .int .i64 l[j].rank] 33 (0, 0)) := by rw [← hW8]; exact heap_alloc_new wr _
          have hb8 : Below w.heap.size w W8 := by rw [← hW8]; exact hbx.alloc hbx.size _
          have hs8 : wr.heap.size < W8.heap.size := by rw [← hW8]; simp
          clear hW8 hI
          have c0 := cell_box hx8
          go_region_held3 (fun w' => w'.cell? ⟨wr.heap.size, 0, none⟩ = some (.string l[j].text) ∧ Lib.IsBuilderF 72 5 w1.heap.size w1.heap.size (Lib.byteCells acc) w') (first | exact ⟨c0, hI8⟩ | (constructor <;> assumption) | assumption)
            (first | (go_at_call 26; refine (Builder_Len_f w1.heap.size w1.heap.size (Lib.byteCells acc) _ ?_).mono ?_; (first | assumption | exact And.right (by assumption)); rintro e w' ⟨rfl, rfl⟩))
          clear c0
          have hx9 : W8.drew.heap[wr.heap.size]? = some (.cells #[.string l[j].text, .bool l[j].plain, .bool l[j].fold, .bool l[j].word, .int .u16 l[j].style, .int .i64 l[j].rank] 33 (0, 0)) := hx8
          have hI9 : Lib.IsBuilderF 72 5 w1.heap.size w1.heap.size (Lib.byteCells acc) W8.drew := hI8
          have hb9 : Below w.heap.size w W8.drew := hb8.drew
          have hs9 : wr.heap.size < W8.drew.heap.size := hs8
          generalize W8.drew = W9 at hx9 hI9 hb9 hs9 ⊢
          clear hx8 hI8 hb8 hs8
          have hok := HK.out l[j] (List.getElem_mem hjl)
          obtain ⟨ho1, ho2, ho3⟩ := hok
          have hln : (Lib.byteCells acc).length = acc.length := Lib.byteCells_length acc
          have hw0 : IntKind.i64.wrap (((Lib.byteCells acc).length : Int) + (l[j].text.size : Int)) = (acc.length : Int) + (l[j].text.size : Int) := by rw [hln]; exact IntWalk.i64_in _ (by omega)
          by_cases h1m : 1048576 < acc.length + l[j].text.size
          · have hd : decide ((1048576 : Int) < (acc.length : Int) + (l[j].text.size : Int)) = true := decide_eq_true (by omega)
            go_wp2_with fail
            go_ret2
            rw [hpp.out, goP_long hjl hgo.out h1m]
            exact ⟨rfl, hb9⟩
          · have hd : decide ((1048576 : Int) < (acc.length : Int) + (l[j].text.size : Int)) = false := decide_eq_false (by omega)
            go_wp2_with fail
            clear hw0 hd hln
            have hro := rank_in (hall.out l[j] (List.getElem_mem hjl))
            have hst : IntKind.i64.wrap l[j].style = l[j].style := IntWalk.i64_in _ (by omega)
            have hS := boxS_of hx9 hb9
            have hID : Lib.IsBuilderF 72 5 w1.heap.size w1.heap.size (Lib.byteCells acc) W9.drew := hI9
            have hl1 := Lib.itoa_length_le l[j].rank (by omega) (by omega)
            have hl2 := Lib.itoa_length_le l[j].style (by omega) (by omega)
            have hq1 : (9223372036854775807 < 5 + (Lib.itoa l[j].rank).length) = False := eq_false (by omega)
            have hq2 : (9223372036854775807 < 5 + (Lib.itoa l[j].rank).length + 1) = False := eq_false (by omega)
            have hq3 : (9223372036854775807 < 5 + (Lib.itoa l[j].rank).length + 1 + (Lib.itoa l[j].style).length) = False := eq_false (by omega)
            have hq4 : (9223372036854775807 < 5 + (Lib.itoa l[j].rank).length + 1 + (Lib.itoa l[j].style).length + 1) = False := eq_false (by omega)
            have hB1 : w.heap.size ≤ w1.heap.size := hb.size
            have hne : wr.heap.size ≠ w1.heap.size := by omega
            go_region_held3 (fun w' => w'.heap[wr.heap.size]? = some (.cells #[.string l[j].text, .bool l[j].plain, .bool l[j].fold, .bool l[j].word, .int .u16 l[j].style, .int .i64 l[j].rank] 33 (0, 0)) ∧ Below w.heap.size w w' ∧ w'.cell? ⟨wr.heap.size, 5, none⟩ = some (.int .i64 l[j].rank) ∧ w'.cell? ⟨wr.heap.size, 4, none⟩ = some (.int .u16 l[j].style))
              (first | exact boxS_below hS (Nat.le_refl _) (Below.refl _ _).drew | exact boxS_below (by assumption) (Nat.le_refl _) (by assumption) | exact boxS_others (by assumption) hB1 hne (by assumption) (by assumption))
              (first
                | (go_at_call 28; refine (itoa_c _ (by omega) (by omega) _ (ht _ ?_)).mono ?_; (exact And.left (And.right (by assumption))); rintro e w' ⟨rfl, hbi⟩)
                | (go_at_call 27; refine (Builder_WriteString_k w1.heap.size w1.heap.size (Lib.byteCells acc) _ _ ?_ ?_ ?_).mono ?_; (exact bld_onward (bld_onward hID (by assumption)) (by assumption)); (simp only [ByteArray.size_append', ByteArray.size_mk', Lib.byteCells_length, List.size_toArray, List.length_cons, List.length_nil]; omega); (exact Nat.le_of_lt (Nat.lt_trans hsx (lt_of_heap (And.left (by assumption))))); rintro e w' ⟨rfl, hwb, hwc, hwd⟩))
            clear hq1 hq2 hq3 hq4
            rename_i hH
            obtain ⟨hx10, hb10, -, -⟩ := hH
            have hI10 : Lib.IsBuilderF 72 5 w1.heap.size w1.heap.size (Lib.byteCells (acc ++ headOf l[j])) w' := Or.inr (by simpa [headOf, Lib.byteCells, Lib.strCells] using hwb)
            clear hwb hwc hwd hbi hS hID hx9 hI9 hb9 hs9
            have hhl : (headOf l[j]).length ≤ 60 := by simp only [headOf, List.length_append, List.length_cons, List.length_nil]; omega
            have c0 := box_cell hx10 0 rfl
            have hz10 : w1.heap.size ≤ w'.heap.size := Nat.le_of_lt (Nat.lt_trans hsx (lt_of_heap hx10))
            go_wp2_with (go_at_call 29; refine (quote_walk w1.heap.size w1.heap.size (acc ++ headOf l[j]) l[j].text _ hI10 (by rw [List.length_append]; omega) hz10).mono ?_)
            rintro e W11 ⟨rfl, hI11, b11, k11⟩
            have hx11 := k11 _ _ hx10 (by simpa using hne) (by intro c fz h; cases h)
            have hb11 : Below w.heap.size w W11 := hb10.trans (b11.mono hB1)
            have hz11 : w1.heap.size < W11.heap.size := Nat.lt_trans hsx (lt_of_heap hx11)
            clear c0 hI10 hx10 hb10 hz10 b11 k11
            have c1 := box_cell hx11 1 rfl
            have c2 := box_cell hx11 2 rfl
            have c3 := box_cell hx11 3 rfl
            go_wp2_with fail
            have hql := qs_le l[j].text.data.toList
            have htl : l[j].text.data.toList.length = l[j].text.size := Array.length_toList
            obtain ⟨acc3, ha3⟩ : ∃ acc3, acc3 = acc ++ headOf l[j] ++ (34 :: qs l[j].text.data.toList ++ [34]) := ⟨_, rfl⟩
            have hI13 : Lib.IsBuilderF 72 5 w1.heap.size w1.heap.size (Lib.byteCells acc3) W11 := by rw [ha3]; exact hI11
            have hl3 : acc3.length ≤ 5242900 := by rw [ha3]; simp only [List.length_append, List.length_cons, List.length_nil]; omega
            have Ha3 := Lib.hid ha3
            clear ha3 hI11 hhl hql htl c1 c2 c3
            obtain ⟨W12, hW12⟩ : ∃ W12, W12 = W11 := ⟨_, rfl⟩
            rw [← hW12] at hI13 hx11 hb11 hz11 ⊢
            clear hW12
            go_loopw [72] (fun i wy => ∃ m : Nat, m ≤ 3 ∧ i = .int .i64 m ∧ Lib.IsBuilderF 72 5 w1.heap.size w1.heap.size (Lib.byteCells (acc3 ++ flagsTo l[j] m)) wy ∧ wy.heap[W12.heap.size]? = some (.cells #[.string ⟨#[32, 112, 108, 97, 105, 110]⟩, .bool l[j].plain, .string ⟨#[32, 102, 111, 108, 100]⟩, .bool l[j].fold, .string ⟨#[32, 119, 111, 114, 100]⟩, .bool l[j].word] 78 (0, 0)) ∧ Below w.heap.size w wy) (fun i _ => 3 - (intOf i).toNat)
            case atStart => exact ⟨0, by omega, rfl, by simpa [flagsTo] using hI13.alloc _, heap_alloc_new W12 _, hb11.alloc hb11.size _⟩
            case round =>
              obtain ⟨m, hm, rfl, hIm, hxm, hbm⟩ := hrel
              have hzm : W12.heap.size < wr.heap.size := lt_of_heap hxm
              have hfl : (flagsTo l[j] m).length ≤ 16 := flagsTo_le _ _
              by_cases hm3 : m < 3
              · have ca := flag_word hxm hm3
                have cb := flag_is hxm hm3
                have hwl := wdOf_le m
                obtain ⟨fo, hfo⟩ : ∃ fo, fo = fOf l[j] m := ⟨_, rfl⟩
                rw [← hfo] at cb
                have hfs := flags_step l[j] m hm3
                rw [← hfo] at hfs
                have Hfs := Lib.hid hfs
                clear hfs hfo
                have hIm2 := hIm.alloc (.cells #[.string (wdOf m), .bool fo] 78)
                cases fo with
                | true =>
                  go_wp2_with (go_at_call 27; refine (Builder_WriteString_k w1.heap.size w1.heap.size (Lib.byteCells (acc3 ++ flagsTo l[j] m)) _ _ hIm2 (by rw [Lib.byteCells_length, List.length_append]; omega) (by simp; omega)).mono ?_)
                  rintro e W13 rfl hI14 b14 k14
                  go_wp2
                  go_roundw
                  case rel =>
                    refine ⟨m + 1, by omega, by go_num, ?_, k14 _ _ ?_ (by simp; omega) (by intro c fz h; cases h), (hbm.alloc hbm.size _).trans (b14.mono hB1)⟩
                    · rw [Hfs.out]; exact Or.inr (by simpa [Lib.byteCells, Lib.strCells, List.append_assoc] using hI14)
                    · exact heap_onward (Below.alloc (Below.refl _ _) (Nat.le_refl _) _) hxm
                  case measure => simp [intOf]; omega
                | false =>
                  go_wp2
                  go_roundw
                  case rel =>
                    refine ⟨m + 1, by omega, by go_num, ?_, heap_onward (Below.alloc (Below.refl _ _) (Nat.le_refl _) _) hxm, hbm.alloc hbm.size _⟩
                    rw [Hfs.out]; simpa using hIm2
                  case measure => simp [intOf]; omega
              · obtain rfl : m = 3 := by omega
                rw [flagsTo_all] at hIm hfl
                go_wp2_with (go_at_call 30; refine (Builder_WriteByte_k w1.heap.size w1.heap.size (Lib.byteCells (acc3 ++ flagsOf l[j])) 10 _ hIm (by rw [Lib.byteCells_length, List.length_append]; omega) (by omega)).mono ?_)
                rintro e W14 ⟨rfl, hI15, b15, k15⟩
                go_wp2
                go_roundw
                case rel =>
                  refine ⟨j + 1, acc ++ lineOf l[j], by omega, by go_num, Lib.hid ?_, ?_, ?_, hbm.trans (b15.mono hB1), ?_⟩
                  · rw [← hgo.out, goP_cons hjl, if_neg h1m]
                  · have := Ha3.out
                    subst this
                    simp only [lineOf, List.length_append, List.length_cons, List.length_nil] at hl3 hfl ⊢
                    omega
                  · refine Or.inr ?_
                    have := Ha3.out
                    subst this
                    simpa [lineOf, Lib.byteCells, List.append_assoc] using hI15
                  · exact Nat.lt_of_lt_of_le (Nat.lt_trans hz11 hzm) b15.size
                case measure => simp [intOf]; omega
        · have hjj : j = l.length := by omega
          have hfin : Hid (printP l = if 1048576 < acc.length then ([], 3) else (acc, 0)) := Lib.hid (by
            rw [hpp.out, ← hgo.out, hjj, List.drop_length]
            rfl)
          clear hgo hpp hjj
          have hln : (Lib.byteCells acc).length = acc.length := Lib.byteCells_length acc
          have HLN := Lib.hid hln
          clear hln
          go_wp2_with (go_at_call 26; refine (Builder_Len_f w1.heap.size w1.heap.size (Lib.byteCells acc) _ hI).mono ?_)
          rintro e w' ⟨rfl, rfl⟩
          by_cases h1m : 1048576 < acc.length
          · have hd : decide ((1048576 : Int) < ((Lib.byteCells acc).length : Int)) = true := decide_eq_true (by rw [HLN.out]; omega)
            have hd' : decide (1048576 < (Lib.byteCells acc).length) = true := decide_eq_true (by rw [HLN.out]; omega)
            go_wp2
            go_ret2
            rw [hfin.out, if_pos h1m]
            exact ⟨rfl, hbx⟩
          · have hd : decide ((1048576 : Int) < ((Lib.byteCells acc).length : Int)) = false := decide_eq_false (by rw [HLN.out]; omega)
            have hd' : decide (1048576 < (Lib.byteCells acc).length) = false := decide_eq_false (by rw [HLN.out]; omega)
            go_wp2_with (go_at_call 31; refine (Builder_String_any_k w1.heap.size w1.heap.size acc _ hI (by omega)).mono ?_)
            first
              | (rintro e W5 ⟨rfl, hI5, b5, k5⟩
                 go_wp2
                 go_ret2
                 rw [hfin.out, if_neg h1m]
                 exact ⟨rfl, hbx.trans (b5.mono hb.size)⟩)
              | (rintro e W5 rfl hI5 b5 k5
                 go_wp2
                 go_ret2
                 rw [hfin.out, if_neg h1m]
                 exact ⟨rfl, hbx.trans (b5.mono hb.size)⟩)
end Go.Proofs.YtaipemiaphpojaaGreatDoor
